/- Where a checkpoint is. -/
import Derived.Test.YtlbdpnlmdcajbaaI
import Derived.Test.YtlbdpnlmdcajbaaF
namespace Go.Proofs.Ytlbdpnlmdcajbaa
open Go.RowKit
open Nat renaming reduceEqDiff → nA, reduceLT → nB, reduceLeDiff → nC, reduceAdd → nD, reduceMul → nE, reduceSub → nF, reduceBEq → nG
open Int renaming reduceToNat → iA, reduceLT → iB, reduceLE → iC, reduceEq → iD
open Bool renaming and_eq_true → bA, or_eq_true → bB, or_eq_false_iff → bC, and_eq_false_iff → bD, not_eq_true' → bE, not_eq_false' → bF, not_true → bG, not_false → bH
set_option linter.all false
set_option maxHeartbeats 4000000
attribute [local irreducible] AW Does ACall tE tS tB tZ

theorem idxS_map {α β : Type} (f : α → β) (p : β → Bool) (L : List α) : idxS (fun q => p (f q)) L = idxS p (L.map f) := by
  unfold idxS; rw [List.findIdx?_map]; rfl
def fndS (l : List Pd) (n : Int) : Int := idxS (fun p => decide (p.num = n)) l
theorem find1_a (q : AV × Pd) (n : Int) (m : Nat) (A : Heap) (hm : A m = some (.r 25 1 1 [[.c (.int .u64 n)]])) (hq : q.1.cs = some [q.1]) : ACall Try.prog 79 ([.g (encP q)] ++ [.p m 1 0 0]) A fun r A' => r = .c (.bool (decide (q.2.num = n))) ∧ A' = A := by
  have hne := ne_old hm
  obtain ⟨y, num, bg, sv, ac⟩ := q
  simp only [encP, List.cons_append, List.nil_append]
  simp only at hq
  refine ACall_of' Try.func79 rfl (Ent_of Try.func79 (by kernel_rfl) rfl) (by simp [Try.ntmps79]) ?_; simp only [Try.ntmps79, Try.results79]
  repeat' (first
    | refine AW_seq_kn fun K hK => ?_
    | refine AW_block ?_
    | ((first
      | refine AW_region E0 ?_ | refine AW_ret ?_ | refine AW_exit ?_ | refine AW_skip ?_ | unfold retQ); try simp only [push_cast, seval, *])
    | (apply AW_cond; (case hc => (simp only [push_cast, seval]; rfl)); all_goals (intro hc; first | (exfalso; simp only [push_cast, seval, *] at hc; done) | (exact absurd hc (by decide)) | ((try first | rw [Bool.not_true] at hc | rw [Bool.not_false] at hc); first | (with_reducible replace hc := tTT hc); clear hc | (with_reducible replace hc := tFF hc); clear hc | (have hp := hc; try simp only [decide_eq_true_eq, decide_eq_false_iff_not, bA, bB, bC, bD, bE, bF, bG, bH] at hp))))
    | (refine Kn.go hK ?_; clear hK K)
    | refine Kn.go (by assumption) ?_
    | (intro n hn; (try simp only [upd_none2, join_none_iff, ite_none, ne_eq] at hn); (try simp only [push_cast, seval, *]))
    | (intro hc)
    | fail)
  exact ⟨_, _, Weak.less (by (simp only [push_cast, seval, *])), rfl, rfl⟩
theorem Chain.css {L : List (AV × Pd)} : ∀ {H H0 : Heap}, Chain RP L H H0 → ∀ q ∈ L, q.1.cs = some [q.1] ∧ q.1.one = true ∧ lenV q.1 = some q.2.acks.length := by
  induction L with
  | nil => simp
  | cons p L ih =>
    rintro H H0 ⟨H1, h1, h2⟩ q hq
    rcases List.mem_cons.1 hq with rfl | hq
    · exact ⟨OwnSl.cs h1, OwnSl.one h1, OwnSl.len h1⟩
    · exact ih h2 q hq
theorem find_o (x : AV) (l : List Pd) (hl : l.length ≤ 1000) (c : Cd) (nb : Nat) (A K : Heap) (h : OwnP x l A K) (hnb : K nb = some (bxC c x)) (n : Int) : ACall Try.prog 57 [.p nb 6 0 0, .c (.int .u64 n)] A fun r A' => r = .c (.int .i64 (fndS l n)) ∧ A' = A := by
  have k1 := (OwnP_loc x l).get h hnb
  have hxcs := h.cs
  unfold fndS
  obtain ⟨L, rfl, A1, h1, h2⟩ := h
  rw [← idxS_map]
  rw [List.length_map] at hl
  simp only [bxC, Cd.cl] at k1
  have hcss := Chain.css h2
  have hne := ne_old k1
  rcases h1.split with ⟨ad, rfl, e, rfl⟩ | ⟨np, cap, rfl, rfl, hnp⟩
  · have hix := fun m G => idxO_nil 79 [.p m 1 0 0] ad G
    obtain rfl : L = [] := List.map_eq_nil_iff.1 e
    clear h1 h2 hcss hnb hl e
    refine ACall_of' Try.func57 rfl (Ent_of Try.func57 (by kernel_rfl) rfl) (by simp [Try.ntmps57]) ?_; simp only [Try.ntmps57, Try.results57]
    repeat' (first
    | refine AW_seq_kn fun K hK => ?_
    | refine AW_block ?_
    | (refine does_call rfl rfl ?_; simp only [push_cast, seval, *]; refine ACall.monoP (hix _ _) ?_; (try simp only [push_cast, seval, *]))
    | ((first
      | refine AW_region E0 ?_ | refine AW_ret ?_ | refine AW_exit ?_ | refine AW_skip ?_ | unfold retQ); try simp only [push_cast, seval, *])
    | (apply AW_cond; (case hc => (simp only [push_cast, seval]; rfl)); all_goals (intro hc; first | (exfalso; simp only [push_cast, seval, *] at hc; done) | (exact absurd hc (by decide)) | ((try first | rw [Bool.not_true] at hc | rw [Bool.not_false] at hc); first | (with_reducible replace hc := tTT hc); clear hc | (with_reducible replace hc := tFF hc); clear hc | (have hp := hc; try simp only [decide_eq_true_eq, decide_eq_false_iff_not, bA, bB, bC, bD, bE, bF, bG, bH] at hp))))
    | (refine Kn.go hK ?_; clear hK K)
    | refine Kn.go (by assumption) ?_
    | (intro n hn; (try simp only [upd_none2, join_none_iff, ite_none, ne_eq] at hn); (try simp only [push_cast, seval, *]))
    | (intro hc)
    | fail)
    exact ⟨_, _, Weak.less (by (simp only [push_cast, seval, *])), rfl, rfl⟩
  · rw [List.length_map] at *
    have hix := fun (m : Nat) (hm : (upd A1 np (.r 61 4 cap (L.map encP))) m = none) => idxO encP encP_len L (by omega) (fun q => decide (q.2.num = n)) 79 [.p m 1 0 0] (upd (upd A1 np (.r 61 4 cap (L.map encP))) m (.r 25 1 1 [[.c (.int .u64 n)]])) (n := np) (cap := cap) (ty := 61) (by rw [upd_ne (by rintro rfl; rw [upd_same] at hm; cases hm), upd_same]) (fun q hq G hG => find1_a q n m G (hG _ _ (upd_same _ _ _)) (hcss q hq).1)
    generalize upd A1 np (.r 61 4 cap (L.map encP)) = A at *
    clear h1 h2 hcss hnb
    replace hix := Lib.hid hix
    refine ACall_of' Try.func57 rfl (Ent_of Try.func57 (by kernel_rfl) rfl) (by simp [Try.ntmps57]) ?_; simp only [Try.ntmps57, Try.results57]
    repeat' (first
    | refine AW_seq_kn fun K hK => ?_
    | refine AW_block ?_
    | ((first
      | refine AW_region E0 ?_ | refine AW_ret ?_ | refine AW_exit ?_ | refine AW_skip ?_ | unfold retQ); try simp only [push_cast, seval, *])
    | (apply AW_cond; (case hc => (simp only [push_cast, seval]; rfl)); all_goals (intro hc; first | (exfalso; simp only [push_cast, seval, *] at hc; done) | (exact absurd hc (by decide)) | ((try first | rw [Bool.not_true] at hc | rw [Bool.not_false] at hc); first | (with_reducible replace hc := tTT hc); clear hc | (with_reducible replace hc := tFF hc); clear hc | (have hp := hc; try simp only [decide_eq_true_eq, decide_eq_false_iff_not, bA, bB, bC, bD, bE, bF, bG, bH] at hp))))
    | (refine Kn.go hK ?_; clear hK K)
    | refine Kn.go (by assumption) ?_
    | (intro n hn; (try simp only [upd_none2, join_none_iff, ite_none, ne_eq] at hn); (try simp only [push_cast, seval, *]))
    | (intro hc)
    | fail)
    refine does_call rfl rfl ?_
    simp only [push_cast, seval, *]
    refine ACall.mono (unhid hix _ hn) ?_
    (rintro _ _ ⟨rfl, e2⟩; have e3 := e2.symm; clear e2; subst e3)
    (try simp only [push_cast, seval, *])
    repeat' (first
    | refine AW_seq_kn fun K hK => ?_
    | refine AW_block ?_
    | ((first
      | refine AW_region E0 ?_ | refine AW_ret ?_ | refine AW_exit ?_ | refine AW_skip ?_ | unfold retQ); try simp only [push_cast, seval, *])
    | (apply AW_cond; (case hc => (simp only [push_cast, seval]; rfl)); all_goals (intro hc; first | (exfalso; simp only [push_cast, seval, *] at hc; done) | (exact absurd hc (by decide)) | ((try first | rw [Bool.not_true] at hc | rw [Bool.not_false] at hc); first | (with_reducible replace hc := tTT hc); clear hc | (with_reducible replace hc := tFF hc); clear hc | (have hp := hc; try simp only [decide_eq_true_eq, decide_eq_false_iff_not, bA, bB, bC, bD, bE, bF, bG, bH] at hp))))
    | (refine Kn.go hK ?_; clear hK K)
    | refine Kn.go (by assumption) ?_
    | (intro n hn; (try simp only [upd_none2, join_none_iff, ite_none, ne_eq] at hn); (try simp only [push_cast, seval, *]))
    | (intro hc)
    | fail)
    exact ⟨_, _, Weak.less (by (simp only [push_cast, seval, *])), rfl, rfl⟩
def oursE (c : Cd) (n at_ : Int) : Int := if (decide (1 ≤ at_) && decide (at_ ≤ 1048576)) = true then (if at_ = c.attempt then (if fndS c.pend n < 0 then 4 else 0) else 321) else 2
theorem ours_o (x : AV) (c : Cd) (hl : c.pend.length ≤ 1000) (nb : Nat) (A K : Heap) (h : OwnP x c.pend A K) (hnb : K nb = some (bxC c x)) (n at_ : Int) : ACall Try.prog 63 [.p nb 6 0 0, .c (.int .u64 n), .c (.int .i64 at_)] A fun r A' => r = .t [.c (.int .i64 (fndS c.pend n)), .c (.int .i64 (oursE c n at_))] ∧ A' = A := by
  have k1 := (OwnP_loc x c.pend).get h hnb
  have hf := find_o x c.pend hl c nb A K h hnb n
  unfold oursE
  generalize fndS c.pend n = F at *
  obtain ⟨c0, c1, c2, c3, c4, l⟩ := c
  simp only [bxC, Cd.cl] at k1
  simp only
  clear h hnb hl
  cases hW : (decide (1 ≤ at_) && decide (at_ ≤ 1048576))
  · refine ACall_of' Try.func63 rfl (Ent_of Try.func63 (by kernel_rfl) rfl) (by simp [Try.ntmps63]) ?_; simp only [Try.ntmps63, Try.results63]
    repeat' (first
    | refine AW_seq_kn fun K hK => ?_
    | refine AW_block ?_
    | (refine does_call rfl rfl ?_; simp only [push_cast, seval, *]; refine ACall.mono hf ?_; (rintro _ _ ⟨rfl, e2⟩; have e3 := e2.symm; clear e2; subst e3); (try simp only [push_cast, seval, *]))
    | (refine does_call rfl rfl ?_; simp only [push_cast, seval, *]; refine ACall.monoP (withinI_p _ _ _ _) ?_; (try simp only [push_cast, seval, *]))
    | ((first
      | refine AW_region E0 ?_ | refine AW_ret ?_ | refine AW_exit ?_ | refine AW_skip ?_ | unfold retQ); try simp only [push_cast, seval, *])
    | (apply AW_cond; (case hc => (simp only [push_cast, seval]; rfl)); all_goals (intro hc; first | (exfalso; simp only [push_cast, seval, *] at hc; done) | (exact absurd hc (by decide)) | ((try first | rw [Bool.not_true] at hc | rw [Bool.not_false] at hc); first | (with_reducible replace hc := tTT hc); clear hc | (with_reducible replace hc := tFF hc); clear hc | (have hp := hc; try simp only [decide_eq_true_eq, decide_eq_false_iff_not, bA, bB, bC, bD, bE, bF, bG, bH] at hp))))
    | (refine Kn.go hK ?_; clear hK K)
    | refine Kn.go (by assumption) ?_
    | (intro n hn; (try simp only [upd_none2, join_none_iff, ite_none, ne_eq] at hn); (try simp only [push_cast, seval, *]))
    | (intro hc)
    | fail)
    exact ⟨_, _, Weak.refl _ _, rfl, rfl⟩
  · rw [if_pos rfl]
    by_cases h1 : at_ = c3
    · rw [if_pos h1]
      subst h1
      by_cases h2 : F < 0
      · rw [if_pos h2]
        refine ACall_of' Try.func63 rfl (Ent_of Try.func63 (by kernel_rfl) rfl) (by simp [Try.ntmps63]) ?_; simp only [Try.ntmps63, Try.results63]
        repeat' (first
    | refine AW_seq_kn fun K hK => ?_
    | refine AW_block ?_
    | (refine does_call rfl rfl ?_; simp only [push_cast, seval, *]; refine ACall.mono hf ?_; (rintro _ _ ⟨rfl, e2⟩; have e3 := e2.symm; clear e2; subst e3); (try simp only [push_cast, seval, *]))
    | (refine does_call rfl rfl ?_; simp only [push_cast, seval, *]; refine ACall.monoP (withinI_p _ _ _ _) ?_; (try simp only [push_cast, seval, *]))
    | ((first
      | refine AW_region E0 ?_ | refine AW_ret ?_ | refine AW_exit ?_ | refine AW_skip ?_ | unfold retQ); try simp only [push_cast, seval, *])
    | (apply AW_cond; (case hc => (simp only [push_cast, seval]; rfl)); all_goals (intro hc; first | (exfalso; simp only [push_cast, seval, *] at hc; done) | (exact absurd hc (by decide)) | ((try first | rw [Bool.not_true] at hc | rw [Bool.not_false] at hc); first | (with_reducible replace hc := tTT hc); clear hc | (with_reducible replace hc := tFF hc); clear hc | (have hp := hc; try simp only [decide_eq_true_eq, decide_eq_false_iff_not, bA, bB, bC, bD, bE, bF, bG, bH] at hp))))
    | (refine Kn.go hK ?_; clear hK K)
    | refine Kn.go (by assumption) ?_
    | (intro n hn; (try simp only [upd_none2, join_none_iff, ite_none, ne_eq] at hn); (try simp only [push_cast, seval, *]))
    | (intro hc)
    | fail)
        exact ⟨_, _, Weak.refl _ _, rfl, rfl⟩
      · rw [if_neg h2]
        refine ACall_of' Try.func63 rfl (Ent_of Try.func63 (by kernel_rfl) rfl) (by simp [Try.ntmps63]) ?_; simp only [Try.ntmps63, Try.results63]
        repeat' (first
    | refine AW_seq_kn fun K hK => ?_
    | refine AW_block ?_
    | (refine does_call rfl rfl ?_; simp only [push_cast, seval, *]; refine ACall.mono hf ?_; (rintro _ _ ⟨rfl, e2⟩; have e3 := e2.symm; clear e2; subst e3); (try simp only [push_cast, seval, *]))
    | (refine does_call rfl rfl ?_; simp only [push_cast, seval, *]; refine ACall.monoP (withinI_p _ _ _ _) ?_; (try simp only [push_cast, seval, *]))
    | ((first
      | refine AW_region E0 ?_ | refine AW_ret ?_ | refine AW_exit ?_ | refine AW_skip ?_ | unfold retQ); try simp only [push_cast, seval, *])
    | (apply AW_cond; (case hc => (simp only [push_cast, seval]; rfl)); all_goals (intro hc; first | (exfalso; simp only [push_cast, seval, *] at hc; done) | (exact absurd hc (by decide)) | ((try first | rw [Bool.not_true] at hc | rw [Bool.not_false] at hc); first | (with_reducible replace hc := tTT hc); clear hc | (with_reducible replace hc := tFF hc); clear hc | (have hp := hc; try simp only [decide_eq_true_eq, decide_eq_false_iff_not, bA, bB, bC, bD, bE, bF, bG, bH] at hp))))
    | (refine Kn.go hK ?_; clear hK K)
    | refine Kn.go (by assumption) ?_
    | (intro n hn; (try simp only [upd_none2, join_none_iff, ite_none, ne_eq] at hn); (try simp only [push_cast, seval, *]))
    | (intro hc)
    | fail)
        exact ⟨_, _, Weak.refl _ _, rfl, rfl⟩
    · rw [if_neg h1]
      refine ACall_of' Try.func63 rfl (Ent_of Try.func63 (by kernel_rfl) rfl) (by simp [Try.ntmps63]) ?_; simp only [Try.ntmps63, Try.results63]
      repeat' (first
    | refine AW_seq_kn fun K hK => ?_
    | refine AW_block ?_
    | (refine does_call rfl rfl ?_; simp only [push_cast, seval, *]; refine ACall.mono hf ?_; (rintro _ _ ⟨rfl, e2⟩; have e3 := e2.symm; clear e2; subst e3); (try simp only [push_cast, seval, *]))
    | (refine does_call rfl rfl ?_; simp only [push_cast, seval, *]; refine ACall.monoP (withinI_p _ _ _ _) ?_; (try simp only [push_cast, seval, *]))
    | ((first
      | refine AW_region E0 ?_ | refine AW_ret ?_ | refine AW_exit ?_ | refine AW_skip ?_ | unfold retQ); try simp only [push_cast, seval, *])
    | (apply AW_cond; (case hc => (simp only [push_cast, seval]; rfl)); all_goals (intro hc; first | (exfalso; simp only [push_cast, seval, *] at hc; done) | (exact absurd hc (by decide)) | ((try first | rw [Bool.not_true] at hc | rw [Bool.not_false] at hc); first | (with_reducible replace hc := tTT hc); clear hc | (with_reducible replace hc := tFF hc); clear hc | (have hp := hc; try simp only [decide_eq_true_eq, decide_eq_false_iff_not, bA, bB, bC, bD, bE, bF, bG, bH] at hp))))
    | (refine Kn.go hK ?_; clear hK K)
    | refine Kn.go (by assumption) ?_
    | (intro n hn; (try simp only [upd_none2, join_none_iff, ite_none, ne_eq] at hn); (try simp only [push_cast, seval, *]))
    | (intro hc)
    | fail)
      exact ⟨_, _, Weak.refl _ _, rfl, rfl⟩
end Go.Proofs.Ytlbdpnlmdcajbaa
