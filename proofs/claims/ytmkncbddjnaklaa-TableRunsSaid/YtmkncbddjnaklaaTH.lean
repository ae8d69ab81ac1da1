/- Walks: Put as the document says it; the same; copies; what is played. -/
import Derived.Test.YtmkncbddjnaklaaTG
import Derived.Test.YtmkncbddjnaklaaTH0
import Derived.Test.YtmkncbddjnaklaaTC2
namespace Go.Proofs.Ytmkncbddjnaklaa
open Go.RowKit
open Nat renaming reduceEqDiff → nA, reduceLT → nB, reduceLeDiff → nC, reduceAdd → nD, reduceMul → nE, reduceSub → nF, reduceBEq → nG
open Int renaming reduceToNat → iA, reduceLT → iB, reduceLE → iC, reduceEq → iD
open Bool renaming and_eq_true → bA, or_eq_true → bB, or_eq_false_iff → bC, and_eq_false_iff → bD, not_eq_true' → bE, not_eq_false' → bF, not_true → bG, not_false → bH
set_option linter.all false
set_option maxHeartbeats 4000000
attribute [local irreducible] AW Does ACall tE tS tB tZ

theorem nil_tab {F : Mem} {e : AV} : Imp F F (.t [.g [.c (.slice none 0 0)], e]) (.t [.g [.l 4 []], e]) := Imp.t (Imps.cons (Imp.g (Imps.cons (Imp.nil_l 4) (fun _ => rfl) Imps.nil)) id (Imps.cons (Imp.refl (Mem.le.refl F) _) id Imps.nil))
theorem rPut_p (l : List KC) (hl : l.length ≤ 100000) (r : Rec) (c : CellD) : Pure Try.prog 41 [.g [.l 4 (l.map KC.av)], .g (Rec.av r), .g (CellD.av c)] (.t [.g [.l 4 ((putR l r c).1.map KC.av)], .c (.int .i64 (putR l r c).2)]) := by
  intro H
  have hR : putR l r c = if tOk l = false then ([], 220) else if putE r c = 0 then (setS l r c, 0) else ([], putE r c) := rfl
  have hE : putE r c = if recOk ⟨r.s, r.k, r.v⟩ = false then 150 else if c.count < 0 ∨ (c.count = 0 ∧ ¬ c.sum = 0) then 2 else 0 := rfl
  have hri := tright_p l (by unfold maxLen; omega)
  have hck := right5_p r.s r.k r.v
  have hpu := fun h => rput_p l hl (tOk_rise h) r c
  generalize putR l r c = T at *
  generalize putE r c = E at *
  generalize setS l r c = S at *
  obtain ⟨T1, T2⟩ := T
  obtain ⟨s, k, v⟩ := r
  obtain ⟨cn, cs⟩ := c
  simp only [Rec.av, CellD.av] at hpu ⊢
  simp only at hck hE
  cases hok : tOk l
  · rw [hok, if_pos rfl] at hR
    obtain ⟨rfl, rfl⟩ : T1 = [] ∧ T2 = 220 := by simpa using hR
    rw [hok] at hri
    simp only [Bool.false_eq_true, if_false, vBF] at hri
    clear hR hE hck hpu
    simp only [List.map_nil]
    refine ACall_of' Try.func41 rfl (Ent_of Try.func41 (by kernel_rfl) rfl) (by simp [Try.ntmps41]) ?_; simp only [Try.ntmps41, Try.results41]
    repeat' (first
    | refine AW_seq_kn fun K hK => ?_
    | refine AW_block ?_
    | (refine does_call rfl rfl ?_; simp only [push_cast, seval, *]; refine ACall.monoP (hri _) ?_; (try simp only [push_cast, seval, *]))
    | ((first
      | refine AW_region E0 ?_ | refine AW_ret ?_ | refine AW_exit ?_ | refine AW_skip ?_ | unfold retQ); try simp only [push_cast, seval, *])
    | ((first | (apply AW_cond; (case hc => (simp only [push_cast, seval]; rfl))) | (apply ER_guard; (case hb => (simp only [push_cast, seval]; rfl)))); all_goals ((intro hc; first | (exfalso; simp only [push_cast, seval, *] at hc; done) | (exact absurd hc (by decide)) | ((try first | rw [Bool.not_true] at hc | rw [Bool.not_false] at hc); first | (with_reducible replace hc := tTT hc); clear hc | (with_reducible replace hc := tFF hc); clear hc | (have hp := hc; try simp only [decide_eq_true_eq, decide_eq_false_iff_not, bA, bB, bC, bD, bE, bF, bG, bH] at hp))) <;> try simp only [push_cast, seval, *]))
    | (refine Kn.go hK ?_; clear hK K)
    | refine Kn.go (by assumption) ?_
    | (intro n hn; (try simp only [upd_none2, join_none_iff, ite_none, ne_eq] at hn); (try simp only [push_cast, seval, *]))
    | (intro hc)
    | (apply ER_blk; (case hp => rfl); (case hb => (simp only [push_cast, seval]; rfl)); (case hd => (simp only [push_cast, seval]; done)); (case h => (intro hc; simp only [push_cast, seval, *]; rfl)); simp only [push_cast, seval, *])
    | fail)
    exact ⟨_, _, Weak.imp (fun F => nil_tab) (by (simp only [push_cast, seval, *])), rfl, rfl⟩
  rw [hok, if_neg (by simp)] at hR
  rw [hok] at hri
  simp only [if_true, vBT] at hri
  have hpu := hpu hok
  cases hrec : recOk ⟨s, k, v⟩
  · rw [hrec] at hck hE
    rw [if_pos rfl] at hE
    subst hE
    obtain ⟨rfl, rfl⟩ : T1 = [] ∧ T2 = 150 := by simpa using hR
    clear hR hpu hrec hok
    simp only [List.map_nil]
    refine ACall_of' Try.func41 rfl (Ent_of Try.func41 (by kernel_rfl) rfl) (by simp [Try.ntmps41]) ?_; simp only [Try.ntmps41, Try.results41]
    repeat' (first
    | refine AW_seq_kn fun K hK => ?_
    | refine AW_block ?_
    | (refine does_call rfl rfl ?_; simp only [push_cast, seval, *]; refine ACall.monoP (hri _) ?_; (try simp only [push_cast, seval, *]))
    | (refine does_call rfl rfl ?_; simp only [push_cast, seval, *]; refine ACall.monoP (hck _) ?_; (try simp only [push_cast, seval, *]))
    | ((first
      | refine AW_region E0 ?_ | refine AW_ret ?_ | refine AW_exit ?_ | refine AW_skip ?_ | unfold retQ); try simp only [push_cast, seval, *])
    | ((first | (apply AW_cond; (case hc => (simp only [push_cast, seval]; rfl))) | (apply ER_guard; (case hb => (simp only [push_cast, seval]; rfl)))); all_goals ((intro hc; first | (exfalso; simp only [push_cast, seval, *] at hc; done) | (exact absurd hc (by decide)) | ((try first | rw [Bool.not_true] at hc | rw [Bool.not_false] at hc); first | (with_reducible replace hc := tTT hc); clear hc | (with_reducible replace hc := tFF hc); clear hc | (have hp := hc; try simp only [decide_eq_true_eq, decide_eq_false_iff_not, bA, bB, bC, bD, bE, bF, bG, bH] at hp))) <;> try simp only [push_cast, seval, *]))
    | (refine Kn.go hK ?_; clear hK K)
    | refine Kn.go (by assumption) ?_
    | (intro n hn; (try simp only [upd_none2, join_none_iff, ite_none, ne_eq] at hn); (try simp only [push_cast, seval, *]))
    | (intro hc)
    | (apply ER_blk; (case hp => rfl); (case hb => (simp only [push_cast, seval]; rfl)); (case hd => (simp only [push_cast, seval]; done)); (case h => (intro hc; simp only [push_cast, seval, *]; rfl)); simp only [push_cast, seval, *])
    | fail)
    exact ⟨_, _, Weak.imp (fun F => nil_tab) (by (simp only [push_cast, seval, *])), rfl, rfl⟩
  rw [hrec] at hck hE
  rw [if_neg (by simp)] at hE
  have h4 : ((cn < 0) = True) ∨ ((cn < 0) = False ∧ (cn = 0) = True ∧ (cs = 0) = False) ∨ ((cn < 0) = False ∧ (cn = 0) = True ∧ (cs = 0) = True) ∨ ((cn < 0) = False ∧ (cn = 0) = False) := by
    simp only [eq_iff_iff, iff_true, iff_false]; omega
  clear hrec hok
  rcases h4 with e1 | ⟨e1, e2, e3⟩ | ⟨e1, e2, e3⟩ | ⟨e1, e2⟩
  all_goals
    simp only [e1, true_or, false_or, if_true] at hE
    try simp only [e2, true_and, false_and, if_false] at hE
    try simp only [e3, not_false_eq_true, not_true_eq_false, if_true, if_false] at hE
    subst hE
    first
      | (rw [if_pos rfl] at hR; obtain ⟨rfl, rfl⟩ : T1 = S ∧ T2 = 0 := by simpa using hR)
      | (rw [if_neg (by decide)] at hR; obtain ⟨rfl, rfl⟩ : T1 = [] ∧ T2 = 2 := by simpa using hR)
    clear hR
    refine ACall_of' Try.func41 rfl (Ent_of Try.func41 (by kernel_rfl) rfl) (by simp [Try.ntmps41]) ?_; simp only [Try.ntmps41, Try.results41]
    repeat' (first
    | refine AW_seq_kn fun K hK => ?_
    | refine AW_block ?_
    | (refine does_call rfl rfl ?_; simp only [push_cast, seval, *]; refine ACall.monoP (hri _) ?_; (try simp only [push_cast, seval, *]))
    | (refine does_call rfl rfl ?_; simp only [push_cast, seval, *]; refine ACall.monoP (hck _) ?_; (try simp only [push_cast, seval, *]))
    | (refine does_call rfl rfl ?_; simp only [push_cast, seval, *]; refine ACall.monoP (hpu _) ?_; (try simp only [push_cast, seval, *]))
    | ((first
      | refine AW_region E0 ?_ | refine AW_ret ?_ | refine AW_exit ?_ | refine AW_skip ?_ | unfold retQ); try simp only [push_cast, seval, *])
    | ((first | (apply AW_cond; (case hc => (simp only [push_cast, seval]; rfl))) | (apply ER_guard; (case hb => (simp only [push_cast, seval]; rfl)))); all_goals ((intro hc; first | (exfalso; simp only [push_cast, seval, *] at hc; done) | (exact absurd hc (by decide)) | ((try first | rw [Bool.not_true] at hc | rw [Bool.not_false] at hc); first | (with_reducible replace hc := tTT hc); clear hc | (with_reducible replace hc := tFF hc); clear hc | (have hp := hc; try simp only [decide_eq_true_eq, decide_eq_false_iff_not, bA, bB, bC, bD, bE, bF, bG, bH] at hp))) <;> try simp only [push_cast, seval, *]))
    | (refine Kn.go hK ?_; clear hK K)
    | refine Kn.go (by assumption) ?_
    | (intro n hn; (try simp only [upd_none2, join_none_iff, ite_none, ne_eq] at hn); (try simp only [push_cast, seval, *]))
    | (intro hc)
    | (apply ER_blk; (case hp => rfl); (case hb => (simp only [push_cast, seval]; rfl)); (case hd => (simp only [push_cast, seval]; done)); (case h => (intro hc; simp only [push_cast, seval, *]; rfl)); simp only [push_cast, seval, *])
    | fail)
    first
      | exact ⟨_, _, Weak.less (by (simp only [push_cast, seval, *])), rfl, rfl⟩
      | exact ⟨_, _, Weak.imp (fun F => nil_tab) (by (simp only [push_cast, seval, *])), rfl, rfl⟩
end Go.Proofs.Ytmkncbddjnaklaa
