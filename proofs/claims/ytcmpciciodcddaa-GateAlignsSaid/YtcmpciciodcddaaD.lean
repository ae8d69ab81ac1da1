/- Walks: which gates may be. -/
import Derived.Test.YtcmpciciodcddaaC
namespace Go.Proofs.Ytcmpciciodcddaa
open Go.RowKit
open Nat renaming reduceEqDiff → nA, reduceLT → nB, reduceLeDiff → nC, reduceAdd → nD, reduceMul → nE, reduceSub → nF, reduceBEq → nG
open Int renaming reduceToNat → iA, reduceLT → iB, reduceLE → iC, reduceEq → iD
open Bool renaming and_eq_true → bA, or_eq_true → bB, or_eq_false_iff → bC, and_eq_false_iff → bD, not_eq_true' → bE, not_eq_false' → bF, not_true → bG, not_false → bH
set_option linter.all false
set_option maxHeartbeats 4000000
attribute [local irreducible] AW Does

theorem cfQ_i {α : Type} (enc : α → List AV) (he : ∀ x, (enc x).length = 4) (l : List α) (hl : l.length ≤ maxLen) (p : α → Bool) (gf : FuncId) (caps : List AV) (H : Heap)
    (hf : ∀ x ∈ l, ACall Try.prog gf ([.g (enc x)] ++ caps) H fun r H' => r = .c (.bool (p x)) ∧ H' = H) :
    ACall Try.prog 54 [.l 4 (l.map enc), .f (.func gf) [] caps] H fun r H' => r = .c (.int .i64 (idxS p l)) ∧ H' = H := by
  refine ACall_of' Try.func54 rfl (Ent_of Try.func54 (by kernel_rfl) rfl) (by simp [Try.ntmps54]) ?_; simp only [Try.ntmps54, Try.results54]
  repeat' (first
    | refine AW_seq_kn fun K hK => ?_
    | refine AW_block ?_
    | ((first
      | refine AW_region E0 ?_ | refine AW_ret ?_ | refine AW_exit ?_ | refine AW_skip ?_ | unfold retQ); try simp only [push_cast, reduceIte, nA, nB, nC, reduceCtorEq, nD, nE, nF, nG, iA, iB, iC, iD, *])
    | (apply AW_cond; (case hc => (simp only [push_cast, reduceIte, nA, nB, nC, reduceCtorEq, nD, nE, nF, nG, iA, iB, iC, iD]; rfl)); all_goals (intro hc; first | (exfalso; simp only [push_cast, reduceIte, nA, nB, nC, reduceCtorEq, nD, nE, nF, nG, iA, iB, iC, iD, *] at hc; done) | (exact absurd hc (by decide)) | (with_reducible (have hcc : true = true := hc); clear hcc hc) | (with_reducible (have hcc : false = false := hc); clear hcc hc) | ((try simp only [Bool.not_true, Bool.not_false] at hc); (first | (with_reducible (have hcc : true = true := hc); clear hcc hc) | (with_reducible (have hcc : false = false := hc); clear hcc hc) | (have hp := hc; (try simp only [decide_eq_true_eq, decide_eq_false_iff_not, bA, bB, bC, bD, bE, bF, bG, bH] at hp))))))
    | (refine Kn.go hK ?_; clear hK K)
    | refine Kn.go (by assumption) ?_
    | (intro n hn; (try simp only [upd_none2, join_none_iff, ite_none, ne_eq] at hn); (try simp only [push_cast, reduceIte, nA, nB, nC, reduceCtorEq, nD, nE, nF, nG, iA, iB, iC, iD, *]))
    | (intro hc)
    | fail)
  refine AW_loopS (fun k : Nat => k ≤ l.length ∧ ∀ j y, j < k → l[j]? = some y → p y = false) (fun k => [(0, .l 4 (l.map enc)), (1, .f (.func gf) [] caps), (7, .c (.int .i64 l.length)), (8, .c (.int .i64 k))]) (fun _ => H) (fun k => l.length - k) 0 ⟨Nat.zero_le _, fun j y hj => by omega⟩ ?_ (Heap.le_refl _) ?_
  · simp only [push_cast, reduceIte, nA, nB, nC, reduceCtorEq, nD, nE, nF, nG, iA, iB, iC, iD, *]
  · rintro k ⟨hk, hno⟩
    unfold maxLen at hl
    by_cases hlt : k < l.length
    · have hx := List.getElem?_eq_getElem hlt
      generalize l[k] = x at hx
      have hlt' : (k : Int) < l.length := by omega
      have htk : List.take 4 (enc x) = enc x := List.take_of_length_le (Nat.le_of_eq (he x))
      have hex := he x
      have hwk : IntKind.i64.wrap ((k : Int) + 1) = (k : Int) + 1 := wrap_i64 (by omega) (by omega)
      have hcall := hf x (List.mem_of_getElem? hx)
      simp only [push_cast, reduceIte, nA, nB, nC, reduceCtorEq, nD, nE, nF, nG, iA, iB, iC, iD] at hcall
      cases hpx : p x
      · rw [hpx] at hcall
        repeat' (first
    | refine AW_seq_kn fun K hK => ?_
    | refine AW_block ?_
    | (refine does_call_f rfl (by simp only [push_cast, reduceIte, nA, nB, nC, reduceCtorEq, nD, nE, nF, nG, iA, iB, iC, iD]; rfl) ?_; simp only [push_cast, reduceIte, nA, nB, nC, reduceCtorEq, nD, nE, nF, nG, iA, iB, iC, iD, *]; refine hcall.mono ?_; (rintro _ _ ⟨rfl, e2⟩; have e3 := e2.symm; clear e2; subst e3); (try simp only [push_cast, reduceIte, nA, nB, nC, reduceCtorEq, nD, nE, nF, nG, iA, iB, iC, iD, *]))
    | ((first
      | refine AW_region E0 ?_ | refine AW_ret ?_ | refine AW_exit ?_ | refine AW_skip ?_ | unfold retQ); try simp only [push_cast, reduceIte, nA, nB, nC, reduceCtorEq, nD, nE, nF, nG, iA, iB, iC, iD, *])
    | (apply AW_cond; (case hc => (simp only [push_cast, reduceIte, nA, nB, nC, reduceCtorEq, nD, nE, nF, nG, iA, iB, iC, iD]; rfl)); all_goals (intro hc; first | (exfalso; simp only [push_cast, reduceIte, nA, nB, nC, reduceCtorEq, nD, nE, nF, nG, iA, iB, iC, iD, *] at hc; done) | (exact absurd hc (by decide)) | (with_reducible (have hcc : true = true := hc); clear hcc hc) | (with_reducible (have hcc : false = false := hc); clear hcc hc) | ((try simp only [Bool.not_true, Bool.not_false] at hc); (first | (with_reducible (have hcc : true = true := hc); clear hcc hc) | (with_reducible (have hcc : false = false := hc); clear hcc hc) | (have hp := hc; (try simp only [decide_eq_true_eq, decide_eq_false_iff_not, bA, bB, bC, bD, bE, bF, bG, bH] at hp))))))
    | (refine Kn.go hK ?_; clear hK K)
    | refine Kn.go (by assumption) ?_
    | (intro n hn; (try simp only [upd_none2, join_none_iff, ite_none, ne_eq] at hn); (try simp only [push_cast, reduceIte, nA, nB, nC, reduceCtorEq, nD, nE, nF, nG, iA, iB, iC, iD, *]))
    | (intro hc)
    | fail)
        refine ⟨k + 1, ⟨by omega, fun j y hj hy => ?_⟩, by simp only [push_cast, reduceIte, nA, nB, nC, reduceCtorEq, nD, nE, nF, nG, iA, iB, iC, iD, *], by omega⟩
        by_cases e : j = k
        · subst e; rw [hx] at hy; cases hy; exact hpx
        · exact hno j y (by omega) hy
      · rw [hpx] at hcall
        repeat' (first
    | refine AW_seq_kn fun K hK => ?_
    | refine AW_block ?_
    | (refine does_call_f rfl (by simp only [push_cast, reduceIte, nA, nB, nC, reduceCtorEq, nD, nE, nF, nG, iA, iB, iC, iD]; rfl) ?_; simp only [push_cast, reduceIte, nA, nB, nC, reduceCtorEq, nD, nE, nF, nG, iA, iB, iC, iD, *]; refine hcall.mono ?_; (rintro _ _ ⟨rfl, e2⟩; have e3 := e2.symm; clear e2; subst e3); (try simp only [push_cast, reduceIte, nA, nB, nC, reduceCtorEq, nD, nE, nF, nG, iA, iB, iC, iD, *]))
    | ((first
      | refine AW_region E0 ?_ | refine AW_ret ?_ | refine AW_exit ?_ | refine AW_skip ?_ | unfold retQ); try simp only [push_cast, reduceIte, nA, nB, nC, reduceCtorEq, nD, nE, nF, nG, iA, iB, iC, iD, *])
    | (apply AW_cond; (case hc => (simp only [push_cast, reduceIte, nA, nB, nC, reduceCtorEq, nD, nE, nF, nG, iA, iB, iC, iD]; rfl)); all_goals (intro hc; first | (exfalso; simp only [push_cast, reduceIte, nA, nB, nC, reduceCtorEq, nD, nE, nF, nG, iA, iB, iC, iD, *] at hc; done) | (exact absurd hc (by decide)) | (with_reducible (have hcc : true = true := hc); clear hcc hc) | (with_reducible (have hcc : false = false := hc); clear hcc hc) | ((try simp only [Bool.not_true, Bool.not_false] at hc); (first | (with_reducible (have hcc : true = true := hc); clear hcc hc) | (with_reducible (have hcc : false = false := hc); clear hcc hc) | (have hp := hc; (try simp only [decide_eq_true_eq, decide_eq_false_iff_not, bA, bB, bC, bD, bE, bF, bG, bH] at hp))))))
    | (refine Kn.go hK ?_; clear hK K)
    | refine Kn.go (by assumption) ?_
    | (intro n hn; (try simp only [upd_none2, join_none_iff, ite_none, ne_eq] at hn); (try simp only [push_cast, reduceIte, nA, nB, nC, reduceCtorEq, nD, nE, nF, nG, iA, iB, iC, iD, *]))
    | (intro hc)
    | fail)
        exact ⟨_, _, Weak.refl _ _, by rw [idxS_some hx hpx hno], rfl⟩
    · have hlt' : ¬ (k : Int) < l.length := by omega
      repeat' (first
    | refine AW_seq_kn fun K hK => ?_
    | refine AW_block ?_
    | ((first
      | refine AW_region E0 ?_ | refine AW_ret ?_ | refine AW_exit ?_ | refine AW_skip ?_ | unfold retQ); try simp only [push_cast, reduceIte, nA, nB, nC, reduceCtorEq, nD, nE, nF, nG, iA, iB, iC, iD, *])
    | (apply AW_cond; (case hc => (simp only [push_cast, reduceIte, nA, nB, nC, reduceCtorEq, nD, nE, nF, nG, iA, iB, iC, iD]; rfl)); all_goals (intro hc; first | (exfalso; simp only [push_cast, reduceIte, nA, nB, nC, reduceCtorEq, nD, nE, nF, nG, iA, iB, iC, iD, *] at hc; done) | (exact absurd hc (by decide)) | (with_reducible (have hcc : true = true := hc); clear hcc hc) | (with_reducible (have hcc : false = false := hc); clear hcc hc) | ((try simp only [Bool.not_true, Bool.not_false] at hc); (first | (with_reducible (have hcc : true = true := hc); clear hcc hc) | (with_reducible (have hcc : false = false := hc); clear hcc hc) | (have hp := hc; (try simp only [decide_eq_true_eq, decide_eq_false_iff_not, bA, bB, bC, bD, bE, bF, bG, bH] at hp))))))
    | (refine Kn.go hK ?_; clear hK K)
    | refine Kn.go (by assumption) ?_
    | (intro n hn; (try simp only [upd_none2, join_none_iff, ite_none, ne_eq] at hn); (try simp only [push_cast, reduceIte, nA, nB, nC, reduceCtorEq, nD, nE, nF, nG, iA, iB, iC, iD, *]))
    | (intro hc)
    | fail)
      have hno' : ∀ (j : Nat) (y : α), l[j]? = some y → p y = false := fun j y hy => by
        have := (List.getElem?_eq_some_iff.1 hy).1
        exact hno j y (by omega) hy
      exact ⟨_, _, Weak.refl _ _, by rw [idxS_none hno'], rfl⟩
theorem cfQ {α : Type} (enc : α → List AV) (he : ∀ x, (enc x).length = 4) (l : List α) (hl : l.length ≤ maxLen) (p : α → Bool) (gf : FuncId) (caps : List AV) (H : Heap)
    (hf : ∀ x ∈ l, ACall Try.prog gf ([.g (enc x)] ++ caps) H fun r H' => r = .c (.bool (p x)) ∧ H' = H) :
    ACall Try.prog 42 [.l 4 (l.map enc), .f (.func gf) [] caps] H fun r H' => r = .c (.bool (l.any p)) ∧ H' = H := by
  refine ACall_of' Try.func42 rfl (Ent_of Try.func42 (by kernel_rfl) rfl) (by simp [Try.ntmps42]) ?_; simp only [Try.ntmps42, Try.results42]
  repeat' (first
    | refine AW_seq_kn fun K hK => ?_
    | refine AW_block ?_
    | (refine does_call rfl rfl ?_; simp only [push_cast, reduceIte, nA, nB, nC, reduceCtorEq, nD, nE, nF, nG, iA, iB, iC, iD, *]; refine (cfQ_i enc he l hl p gf caps H hf).mono ?_; (rintro _ _ ⟨rfl, e2⟩; have e3 := e2.symm; clear e2; subst e3); (try simp only [push_cast, reduceIte, nA, nB, nC, reduceCtorEq, nD, nE, nF, nG, iA, iB, iC, iD, *]))
    | ((first
      | refine AW_region E0 ?_ | refine AW_ret ?_ | refine AW_exit ?_ | refine AW_skip ?_ | unfold retQ); try simp only [push_cast, reduceIte, nA, nB, nC, reduceCtorEq, nD, nE, nF, nG, iA, iB, iC, iD, *])
    | (apply AW_cond; (case hc => (simp only [push_cast, reduceIte, nA, nB, nC, reduceCtorEq, nD, nE, nF, nG, iA, iB, iC, iD]; rfl)); all_goals (intro hc; first | (exfalso; simp only [push_cast, reduceIte, nA, nB, nC, reduceCtorEq, nD, nE, nF, nG, iA, iB, iC, iD, *] at hc; done) | (exact absurd hc (by decide)) | (with_reducible (have hcc : true = true := hc); clear hcc hc) | (with_reducible (have hcc : false = false := hc); clear hcc hc) | ((try simp only [Bool.not_true, Bool.not_false] at hc); (first | (with_reducible (have hcc : true = true := hc); clear hcc hc) | (with_reducible (have hcc : false = false := hc); clear hcc hc) | (have hp := hc; (try simp only [decide_eq_true_eq, decide_eq_false_iff_not, bA, bB, bC, bD, bE, bF, bG, bH] at hp))))))
    | (refine Kn.go hK ?_; clear hK K)
    | refine Kn.go (by assumption) ?_
    | (intro n hn; (try simp only [upd_none2, join_none_iff, ite_none, ne_eq] at hn); (try simp only [push_cast, reduceIte, nA, nB, nC, reduceCtorEq, nD, nE, nF, nG, iA, iB, iC, iD, *]))
    | (intro hc)
    | fail)
  exact ⟨_, _, Weak.refl _ _, by rw [idxS_nonneg], rfl⟩

theorem cfF_i {α : Type} (enc : α → AV) (ho : ∀ x, (enc x).one = true) (l : List α) (hl : l.length ≤ maxLen) (p : α → Bool) (gf : FuncId) (caps : List AV) (H : Heap)
    (hf : ∀ x ∈ l, ACall Try.prog gf ([enc x] ++ caps) H fun r H' => r = .c (.bool (p x)) ∧ H' = H) :
    ACall Try.prog 57 [.l 1 (l.map fun x => [enc x]), .f (.func gf) [] caps] H fun r H' => r = .c (.int .i64 (idxS p l)) ∧ H' = H := by
  refine ACall_of' Try.func57 rfl (Ent_of Try.func57 (by kernel_rfl) rfl) (by simp [Try.ntmps57]) ?_; simp only [Try.ntmps57, Try.results57]
  repeat' (first
    | refine AW_seq_kn fun K hK => ?_
    | refine AW_block ?_
    | ((first
      | refine AW_region E0 ?_ | refine AW_ret ?_ | refine AW_exit ?_ | refine AW_skip ?_ | unfold retQ); try simp only [push_cast, reduceIte, nA, nB, nC, reduceCtorEq, nD, nE, nF, nG, iA, iB, iC, iD, *])
    | (apply AW_cond; (case hc => (simp only [push_cast, reduceIte, nA, nB, nC, reduceCtorEq, nD, nE, nF, nG, iA, iB, iC, iD]; rfl)); all_goals (intro hc; first | (exfalso; simp only [push_cast, reduceIte, nA, nB, nC, reduceCtorEq, nD, nE, nF, nG, iA, iB, iC, iD, *] at hc; done) | (exact absurd hc (by decide)) | (with_reducible (have hcc : true = true := hc); clear hcc hc) | (with_reducible (have hcc : false = false := hc); clear hcc hc) | ((try simp only [Bool.not_true, Bool.not_false] at hc); (first | (with_reducible (have hcc : true = true := hc); clear hcc hc) | (with_reducible (have hcc : false = false := hc); clear hcc hc) | (have hp := hc; (try simp only [decide_eq_true_eq, decide_eq_false_iff_not, bA, bB, bC, bD, bE, bF, bG, bH] at hp))))))
    | (refine Kn.go hK ?_; clear hK K)
    | refine Kn.go (by assumption) ?_
    | (intro n hn; (try simp only [upd_none2, join_none_iff, ite_none, ne_eq] at hn); (try simp only [push_cast, reduceIte, nA, nB, nC, reduceCtorEq, nD, nE, nF, nG, iA, iB, iC, iD, *]))
    | (intro hc)
    | fail)
  refine AW_loopS (fun k : Nat => k ≤ l.length ∧ ∀ j y, j < k → l[j]? = some y → p y = false) (fun k => [(0, .l 1 (l.map fun x => [enc x])), (1, .f (.func gf) [] caps), (7, .c (.int .i64 l.length)), (8, .c (.int .i64 k))]) (fun _ => H) (fun k => l.length - k) 0 ⟨Nat.zero_le _, fun j y hj => by omega⟩ ?_ (Heap.le_refl _) ?_
  · simp only [push_cast, reduceIte, nA, nB, nC, reduceCtorEq, nD, nE, nF, nG, iA, iB, iC, iD, *]
  · rintro k ⟨hk, hno⟩
    unfold maxLen at hl
    by_cases hlt : k < l.length
    · have hx := List.getElem?_eq_getElem hlt
      generalize l[k] = x at hx
      have hlt' : (k : Int) < l.length := by omega
      have hox := ho x
      have hwk : IntKind.i64.wrap ((k : Int) + 1) = (k : Int) + 1 := wrap_i64 (by omega) (by omega)
      have hcall := hf x (List.mem_of_getElem? hx)
      simp only [push_cast, reduceIte, nA, nB, nC, reduceCtorEq, nD, nE, nF, nG, iA, iB, iC, iD] at hcall
      cases hpx : p x
      · rw [hpx] at hcall
        repeat' (first
    | refine AW_seq_kn fun K hK => ?_
    | refine AW_block ?_
    | (refine does_call_f rfl (by simp only [push_cast, reduceIte, nA, nB, nC, reduceCtorEq, nD, nE, nF, nG, iA, iB, iC, iD]; rfl) ?_; simp only [push_cast, reduceIte, nA, nB, nC, reduceCtorEq, nD, nE, nF, nG, iA, iB, iC, iD, *]; refine hcall.mono ?_; (rintro _ _ ⟨rfl, e2⟩; have e3 := e2.symm; clear e2; subst e3); (try simp only [push_cast, reduceIte, nA, nB, nC, reduceCtorEq, nD, nE, nF, nG, iA, iB, iC, iD, *]))
    | ((first
      | refine AW_region E0 ?_ | refine AW_ret ?_ | refine AW_exit ?_ | refine AW_skip ?_ | unfold retQ); try simp only [push_cast, reduceIte, nA, nB, nC, reduceCtorEq, nD, nE, nF, nG, iA, iB, iC, iD, *])
    | (apply AW_cond; (case hc => (simp only [push_cast, reduceIte, nA, nB, nC, reduceCtorEq, nD, nE, nF, nG, iA, iB, iC, iD]; rfl)); all_goals (intro hc; first | (exfalso; simp only [push_cast, reduceIte, nA, nB, nC, reduceCtorEq, nD, nE, nF, nG, iA, iB, iC, iD, *] at hc; done) | (exact absurd hc (by decide)) | (with_reducible (have hcc : true = true := hc); clear hcc hc) | (with_reducible (have hcc : false = false := hc); clear hcc hc) | ((try simp only [Bool.not_true, Bool.not_false] at hc); (first | (with_reducible (have hcc : true = true := hc); clear hcc hc) | (with_reducible (have hcc : false = false := hc); clear hcc hc) | (have hp := hc; (try simp only [decide_eq_true_eq, decide_eq_false_iff_not, bA, bB, bC, bD, bE, bF, bG, bH] at hp))))))
    | (refine Kn.go hK ?_; clear hK K)
    | refine Kn.go (by assumption) ?_
    | (intro n hn; (try simp only [upd_none2, join_none_iff, ite_none, ne_eq] at hn); (try simp only [push_cast, reduceIte, nA, nB, nC, reduceCtorEq, nD, nE, nF, nG, iA, iB, iC, iD, *]))
    | (intro hc)
    | fail)
        refine ⟨k + 1, ⟨by omega, fun j y hj hy => ?_⟩, by simp only [push_cast, reduceIte, nA, nB, nC, reduceCtorEq, nD, nE, nF, nG, iA, iB, iC, iD, *], by omega⟩
        by_cases e : j = k
        · subst e; rw [hx] at hy; cases hy; exact hpx
        · exact hno j y (by omega) hy
      · rw [hpx] at hcall
        repeat' (first
    | refine AW_seq_kn fun K hK => ?_
    | refine AW_block ?_
    | (refine does_call_f rfl (by simp only [push_cast, reduceIte, nA, nB, nC, reduceCtorEq, nD, nE, nF, nG, iA, iB, iC, iD]; rfl) ?_; simp only [push_cast, reduceIte, nA, nB, nC, reduceCtorEq, nD, nE, nF, nG, iA, iB, iC, iD, *]; refine hcall.mono ?_; (rintro _ _ ⟨rfl, e2⟩; have e3 := e2.symm; clear e2; subst e3); (try simp only [push_cast, reduceIte, nA, nB, nC, reduceCtorEq, nD, nE, nF, nG, iA, iB, iC, iD, *]))
    | ((first
      | refine AW_region E0 ?_ | refine AW_ret ?_ | refine AW_exit ?_ | refine AW_skip ?_ | unfold retQ); try simp only [push_cast, reduceIte, nA, nB, nC, reduceCtorEq, nD, nE, nF, nG, iA, iB, iC, iD, *])
    | (apply AW_cond; (case hc => (simp only [push_cast, reduceIte, nA, nB, nC, reduceCtorEq, nD, nE, nF, nG, iA, iB, iC, iD]; rfl)); all_goals (intro hc; first | (exfalso; simp only [push_cast, reduceIte, nA, nB, nC, reduceCtorEq, nD, nE, nF, nG, iA, iB, iC, iD, *] at hc; done) | (exact absurd hc (by decide)) | (with_reducible (have hcc : true = true := hc); clear hcc hc) | (with_reducible (have hcc : false = false := hc); clear hcc hc) | ((try simp only [Bool.not_true, Bool.not_false] at hc); (first | (with_reducible (have hcc : true = true := hc); clear hcc hc) | (with_reducible (have hcc : false = false := hc); clear hcc hc) | (have hp := hc; (try simp only [decide_eq_true_eq, decide_eq_false_iff_not, bA, bB, bC, bD, bE, bF, bG, bH] at hp))))))
    | (refine Kn.go hK ?_; clear hK K)
    | refine Kn.go (by assumption) ?_
    | (intro n hn; (try simp only [upd_none2, join_none_iff, ite_none, ne_eq] at hn); (try simp only [push_cast, reduceIte, nA, nB, nC, reduceCtorEq, nD, nE, nF, nG, iA, iB, iC, iD, *]))
    | (intro hc)
    | fail)
        exact ⟨_, _, Weak.refl _ _, by rw [idxS_some hx hpx hno], rfl⟩
    · have hlt' : ¬ (k : Int) < l.length := by omega
      repeat' (first
    | refine AW_seq_kn fun K hK => ?_
    | refine AW_block ?_
    | ((first
      | refine AW_region E0 ?_ | refine AW_ret ?_ | refine AW_exit ?_ | refine AW_skip ?_ | unfold retQ); try simp only [push_cast, reduceIte, nA, nB, nC, reduceCtorEq, nD, nE, nF, nG, iA, iB, iC, iD, *])
    | (apply AW_cond; (case hc => (simp only [push_cast, reduceIte, nA, nB, nC, reduceCtorEq, nD, nE, nF, nG, iA, iB, iC, iD]; rfl)); all_goals (intro hc; first | (exfalso; simp only [push_cast, reduceIte, nA, nB, nC, reduceCtorEq, nD, nE, nF, nG, iA, iB, iC, iD, *] at hc; done) | (exact absurd hc (by decide)) | (with_reducible (have hcc : true = true := hc); clear hcc hc) | (with_reducible (have hcc : false = false := hc); clear hcc hc) | ((try simp only [Bool.not_true, Bool.not_false] at hc); (first | (with_reducible (have hcc : true = true := hc); clear hcc hc) | (with_reducible (have hcc : false = false := hc); clear hcc hc) | (have hp := hc; (try simp only [decide_eq_true_eq, decide_eq_false_iff_not, bA, bB, bC, bD, bE, bF, bG, bH] at hp))))))
    | (refine Kn.go hK ?_; clear hK K)
    | refine Kn.go (by assumption) ?_
    | (intro n hn; (try simp only [upd_none2, join_none_iff, ite_none, ne_eq] at hn); (try simp only [push_cast, reduceIte, nA, nB, nC, reduceCtorEq, nD, nE, nF, nG, iA, iB, iC, iD, *]))
    | (intro hc)
    | fail)
      have hno' : ∀ (j : Nat) (y : α), l[j]? = some y → p y = false := fun j y hy => by
        have := (List.getElem?_eq_some_iff.1 hy).1
        exact hno j y (by omega) hy
      exact ⟨_, _, Weak.refl _ _, by rw [idxS_none hno'], rfl⟩
theorem cfF {α : Type} (enc : α → AV) (ho : ∀ x, (enc x).one = true) (l : List α) (hl : l.length ≤ maxLen) (p : α → Bool) (gf : FuncId) (caps : List AV) (H : Heap)
    (hf : ∀ x ∈ l, ACall Try.prog gf ([enc x] ++ caps) H fun r H' => r = .c (.bool (p x)) ∧ H' = H) :
    ACall Try.prog 52 [.l 1 (l.map fun x => [enc x]), .f (.func gf) [] caps] H fun r H' => r = .c (.bool (l.any p)) ∧ H' = H := by
  refine ACall_of' Try.func52 rfl (Ent_of Try.func52 (by kernel_rfl) rfl) (by simp [Try.ntmps52]) ?_; simp only [Try.ntmps52, Try.results52]
  repeat' (first
    | refine AW_seq_kn fun K hK => ?_
    | refine AW_block ?_
    | (refine does_call rfl rfl ?_; simp only [push_cast, reduceIte, nA, nB, nC, reduceCtorEq, nD, nE, nF, nG, iA, iB, iC, iD, *]; refine (cfF_i enc ho l hl p gf caps H hf).mono ?_; (rintro _ _ ⟨rfl, e2⟩; have e3 := e2.symm; clear e2; subst e3); (try simp only [push_cast, reduceIte, nA, nB, nC, reduceCtorEq, nD, nE, nF, nG, iA, iB, iC, iD, *]))
    | ((first
      | refine AW_region E0 ?_ | refine AW_ret ?_ | refine AW_exit ?_ | refine AW_skip ?_ | unfold retQ); try simp only [push_cast, reduceIte, nA, nB, nC, reduceCtorEq, nD, nE, nF, nG, iA, iB, iC, iD, *])
    | (apply AW_cond; (case hc => (simp only [push_cast, reduceIte, nA, nB, nC, reduceCtorEq, nD, nE, nF, nG, iA, iB, iC, iD]; rfl)); all_goals (intro hc; first | (exfalso; simp only [push_cast, reduceIte, nA, nB, nC, reduceCtorEq, nD, nE, nF, nG, iA, iB, iC, iD, *] at hc; done) | (exact absurd hc (by decide)) | (with_reducible (have hcc : true = true := hc); clear hcc hc) | (with_reducible (have hcc : false = false := hc); clear hcc hc) | ((try simp only [Bool.not_true, Bool.not_false] at hc); (first | (with_reducible (have hcc : true = true := hc); clear hcc hc) | (with_reducible (have hcc : false = false := hc); clear hcc hc) | (have hp := hc; (try simp only [decide_eq_true_eq, decide_eq_false_iff_not, bA, bB, bC, bD, bE, bF, bG, bH] at hp))))))
    | (refine Kn.go hK ?_; clear hK K)
    | refine Kn.go (by assumption) ?_
    | (intro n hn; (try simp only [upd_none2, join_none_iff, ite_none, ne_eq] at hn); (try simp only [push_cast, reduceIte, nA, nB, nC, reduceCtorEq, nD, nE, nF, nG, iA, iB, iC, iD, *]))
    | (intro hc)
    | fail)
  exact ⟨_, _, Weak.refl _ _, by rw [idxS_nonneg], rfl⟩

theorem qu_len (q : Qu) : (Qu.av q).length = 4 := rfl
theorem held_p (q : Qu) : Pure Try.prog 43 [.g (Qu.av q)] (.c (.bool q.he)) := by
  intro H
  refine ACall_of' Try.func43 rfl (Ent_of Try.func43 (by kernel_rfl) rfl) (by simp [Try.ntmps43]) ?_; simp only [Try.ntmps43, Try.results43]
  repeat' (first
    | refine AW_seq_kn fun K hK => ?_
    | refine AW_block ?_
    | ((first
      | refine AW_region E1 ?_ | refine AW_ret ?_ | refine AW_exit ?_ | refine AW_skip ?_ | unfold retQ); try simp only [push_cast, reduceIte, nA, nB, nC, reduceCtorEq, nD, nE, nF, nG, iA, iB, iC, iD, *])
    | (apply AW_cond; (case hc => (simp only [push_cast, reduceIte, nA, nB, nC, reduceCtorEq, nD, nE, nF, nG, iA, iB, iC, iD]; rfl)); all_goals (intro hc; first | (exfalso; simp only [push_cast, reduceIte, nA, nB, nC, reduceCtorEq, nD, nE, nF, nG, iA, iB, iC, iD, *] at hc; done) | (exact absurd hc (by decide)) | (with_reducible (have hcc : true = true := hc); clear hcc hc) | (with_reducible (have hcc : false = false := hc); clear hcc hc) | ((try simp only [Bool.not_true, Bool.not_false] at hc); (first | (with_reducible (have hcc : true = true := hc); clear hcc hc) | (with_reducible (have hcc : false = false := hc); clear hcc hc) | (have hp := hc; (try simp only [decide_eq_true_eq, decide_eq_false_iff_not, bA, bB, bC, bD, bE, bF, bG, bH] at hp))))))
    | (refine Kn.go hK ?_; clear hK K)
    | refine Kn.go (by assumption) ?_
    | (intro n hn; (try simp only [upd_none2, join_none_iff, ite_none, ne_eq] at hn); (try simp only [push_cast, reduceIte, nA, nB, nC, reduceCtorEq, nD, nE, nF, nG, iA, iB, iC, iD, *]))
    | (intro hc)
    | fail)
  all_goals exact ⟨_, _, Weak.less (by (simp only [push_cast, reduceIte, nA, nB, nC, reduceCtorEq, nD, nE, nF, nG, iA, iB, iC, iD, *])), rfl, rfl⟩
theorem ended_p (q : Qu) : Pure Try.prog 41 [.g (Qu.av q)] (.c (.bool q.en)) := by
  intro H
  refine ACall_of' Try.func41 rfl (Ent_of Try.func41 (by kernel_rfl) rfl) (by simp [Try.ntmps41]) ?_; simp only [Try.ntmps41, Try.results41]
  repeat' (first
    | refine AW_seq_kn fun K hK => ?_
    | refine AW_block ?_
    | ((first
      | refine AW_region E1 ?_ | refine AW_ret ?_ | refine AW_exit ?_ | refine AW_skip ?_ | unfold retQ); try simp only [push_cast, reduceIte, nA, nB, nC, reduceCtorEq, nD, nE, nF, nG, iA, iB, iC, iD, *])
    | (apply AW_cond; (case hc => (simp only [push_cast, reduceIte, nA, nB, nC, reduceCtorEq, nD, nE, nF, nG, iA, iB, iC, iD]; rfl)); all_goals (intro hc; first | (exfalso; simp only [push_cast, reduceIte, nA, nB, nC, reduceCtorEq, nD, nE, nF, nG, iA, iB, iC, iD, *] at hc; done) | (exact absurd hc (by decide)) | (with_reducible (have hcc : true = true := hc); clear hcc hc) | (with_reducible (have hcc : false = false := hc); clear hcc hc) | ((try simp only [Bool.not_true, Bool.not_false] at hc); (first | (with_reducible (have hcc : true = true := hc); clear hcc hc) | (with_reducible (have hcc : false = false := hc); clear hcc hc) | (have hp := hc; (try simp only [decide_eq_true_eq, decide_eq_false_iff_not, bA, bB, bC, bD, bE, bF, bG, bH] at hp))))))
    | (refine Kn.go hK ?_; clear hK K)
    | refine Kn.go (by assumption) ?_
    | (intro n hn; (try simp only [upd_none2, join_none_iff, ite_none, ne_eq] at hn); (try simp only [push_cast, reduceIte, nA, nB, nC, reduceCtorEq, nD, nE, nF, nG, iA, iB, iC, iD, *]))
    | (intro hc)
    | fail)
  all_goals exact ⟨_, _, Weak.less (by (simp only [push_cast, reduceIte, nA, nB, nC, reduceCtorEq, nD, nE, nF, nG, iA, iB, iC, iD, *])), rfl, rfl⟩
theorem every11_a (q : Qu) (f : FuncId) (b : Bool) (hf : Pure Try.prog f [.g (Qu.av q)] (.c (.bool b))) (m : Nat) (H : Heap) (hm : H m = some (.r 39 4 1 [Qu.av q])) :
    ACall Try.prog 53 ([fnA f] ++ [.p m 4 0 0]) H fun r H' => r = .c (.bool b) ∧ H' = H := by
  have hf2 := hf H
  simp only [Qu.av] at hm hf2
  unfold fnA
  refine ACall_of' Try.func53 rfl (Ent_of Try.func53 (by kernel_rfl) rfl) (by simp [Try.ntmps53]) ?_; simp only [Try.ntmps53, Try.results53]
  repeat' (first
    | refine AW_seq_kn fun K hK => ?_
    | refine AW_block ?_
    | (refine does_call rfl rfl ?_; simp only [push_cast, reduceIte, nA, nB, nC, reduceCtorEq, nD, nE, nF, nG, iA, iB, iC, iD, *]; refine ACall.mono hf2 ?_; (rintro _ _ ⟨rfl, e2⟩; have e3 := e2.symm; clear e2; subst e3); (try simp only [push_cast, reduceIte, nA, nB, nC, reduceCtorEq, nD, nE, nF, nG, iA, iB, iC, iD, *]))
    | ((first
      | refine AW_region E1 ?_ | refine AW_ret ?_ | refine AW_exit ?_ | refine AW_skip ?_ | unfold retQ); try simp only [push_cast, reduceIte, nA, nB, nC, reduceCtorEq, nD, nE, nF, nG, iA, iB, iC, iD, *])
    | (apply AW_cond; (case hc => (simp only [push_cast, reduceIte, nA, nB, nC, reduceCtorEq, nD, nE, nF, nG, iA, iB, iC, iD]; rfl)); all_goals (intro hc; first | (exfalso; simp only [push_cast, reduceIte, nA, nB, nC, reduceCtorEq, nD, nE, nF, nG, iA, iB, iC, iD, *] at hc; done) | (exact absurd hc (by decide)) | (with_reducible (have hcc : true = true := hc); clear hcc hc) | (with_reducible (have hcc : false = false := hc); clear hcc hc) | ((try simp only [Bool.not_true, Bool.not_false] at hc); (first | (with_reducible (have hcc : true = true := hc); clear hcc hc) | (with_reducible (have hcc : false = false := hc); clear hcc hc) | (have hp := hc; (try simp only [decide_eq_true_eq, decide_eq_false_iff_not, bA, bB, bC, bD, bE, bF, bG, bH] at hp))))))
    | (refine Kn.go hK ?_; clear hK K)
    | refine Kn.go (by assumption) ?_
    | (intro n hn; (try simp only [upd_none2, join_none_iff, ite_none, ne_eq] at hn); (try simp only [push_cast, reduceIte, nA, nB, nC, reduceCtorEq, nD, nE, nF, nG, iA, iB, iC, iD, *]))
    | (intro hc)
    | fail)
  exact ⟨_, _, Weak.refl _ _, rfl, rfl⟩
abbrev Fq := FuncId × (Qu → Bool)
def anyF (fs : List Fq) (q : Qu) : Bool := fs.any fun f => f.2 q
theorem every1_a (q : Qu) (fs : List Fq) (hl : fs.length ≤ maxLen) (hf : ∀ f ∈ fs, Pure Try.prog f.1 [.g (Qu.av q)] (.c (.bool (f.2 q)))) (m : Nat) (H : Heap) (hm : H m = some (.r 77 1 1 [[.l 1 (fs.map fun f => [fnA f.1])]])) :
    ACall Try.prog 51 ([.g (Qu.av q)] ++ [.p m 1 0 0]) H fun r H' => r = .c (.bool (!anyF fs q)) ∧ H' = H := by
  have hne := ne_old hm
  refine ACall_of' Try.func51 rfl (Ent_of Try.func51 (by kernel_rfl) rfl) (by simp [Try.ntmps51]) ?_; simp only [Try.ntmps51, Try.results51]
  ((repeat refine AW_seq_kn fun K hK => ?_); (first | (refine AW_region E1 ?_; simp only [push_cast, reduceIte, nA, nB, nC, reduceCtorEq, nD, nE, nF, nG, iA, iB, iC, iD, *])); (repeat' (first | (intro n hn; (try simp only [upd_none2, join_none_iff, ite_none, ne_eq] at hn); (try simp only [push_cast, reduceIte, nA, nB, nC, reduceCtorEq, nD, nE, nF, nG, iA, iB, iC, iD, *])))); refine Kn.go hK ?_; clear hK K)
  have hc := cfF (fun f : Fq => fnA f.1) (fun _ => rfl) fs hl (fun f => f.2 q) 53 [.p n 4 0 0] (upd H n (.r 39 4 1 [Qu.av q])) (fun f hfm => every11_a q f.1 (f.2 q) (hf f hfm) n _ (upd_same _ _ _))
  simp only [Qu.av] at hc
  repeat' (first
    | refine AW_seq_kn fun K hK => ?_
    | refine AW_block ?_
    | (refine does_call rfl rfl ?_; simp only [push_cast, reduceIte, nA, nB, nC, reduceCtorEq, nD, nE, nF, nG, iA, iB, iC, iD, *]; refine ACall.mono hc ?_; (rintro _ _ ⟨rfl, e2⟩; have e3 := e2.symm; clear e2; subst e3); (try simp only [push_cast, reduceIte, nA, nB, nC, reduceCtorEq, nD, nE, nF, nG, iA, iB, iC, iD, *]))
    | ((first
      | refine AW_region E1 ?_ | refine AW_ret ?_ | refine AW_exit ?_ | refine AW_skip ?_ | unfold retQ); try simp only [push_cast, reduceIte, nA, nB, nC, reduceCtorEq, nD, nE, nF, nG, iA, iB, iC, iD, *])
    | (apply AW_cond; (case hc => (simp only [push_cast, reduceIte, nA, nB, nC, reduceCtorEq, nD, nE, nF, nG, iA, iB, iC, iD]; rfl)); all_goals (intro hc; first | (exfalso; simp only [push_cast, reduceIte, nA, nB, nC, reduceCtorEq, nD, nE, nF, nG, iA, iB, iC, iD, *] at hc; done) | (exact absurd hc (by decide)) | (with_reducible (have hcc : true = true := hc); clear hcc hc) | (with_reducible (have hcc : false = false := hc); clear hcc hc) | ((try simp only [Bool.not_true, Bool.not_false] at hc); (first | (with_reducible (have hcc : true = true := hc); clear hcc hc) | (with_reducible (have hcc : false = false := hc); clear hcc hc) | (have hp := hc; (try simp only [decide_eq_true_eq, decide_eq_false_iff_not, bA, bB, bC, bD, bE, bF, bG, bH] at hp))))))
    | (refine Kn.go hK ?_; clear hK K)
    | refine Kn.go (by assumption) ?_
    | (intro n hn; (try simp only [upd_none2, join_none_iff, ite_none, ne_eq] at hn); (try simp only [push_cast, reduceIte, nA, nB, nC, reduceCtorEq, nD, nE, nF, nG, iA, iB, iC, iD, *]))
    | (intro hc)
    | fail)
  exact ⟨_, _, Weak.less (by (simp only [push_cast, reduceIte, nA, nB, nC, reduceCtorEq, nD, nE, nF, nG, iA, iB, iC, iD, *])), rfl, rfl⟩
def everyS (fs : List Fq) (l : List Qu) : Bool := l.all (anyF fs)
theorem everyS_eq (fs : List Fq) (l : List Qu) : (!l.any fun q => !anyF fs q) = everyS fs l := by
  unfold everyS; rw [List.all_eq_not_any_not]
theorem every_p (l : List Qu) (hl : l.length ≤ maxLen) (fs : List Fq) (hfl : fs.length ≤ maxLen) (hf : ∀ f ∈ fs, ∀ q ∈ l, Pure Try.prog f.1 [.g (Qu.av q)] (.c (.bool (f.2 q)))) :
    Pure Try.prog 40 [.l 4 (l.map Qu.av), .l 1 (fs.map fun f => [fnA f.1])] (.c (.bool (everyS fs l))) := by
  intro H
  refine ACall_of' Try.func40 rfl (Ent_of Try.func40 (by kernel_rfl) rfl) (by simp [Try.ntmps40]) ?_; simp only [Try.ntmps40, Try.results40]
  ((repeat refine AW_seq_kn fun K hK => ?_); (first | (refine AW_region E1 ?_; simp only [push_cast, reduceIte, nA, nB, nC, reduceCtorEq, nD, nE, nF, nG, iA, iB, iC, iD, *])); (repeat' (first | (intro n hn; (try simp only [upd_none2, join_none_iff, ite_none, ne_eq] at hn); (try simp only [push_cast, reduceIte, nA, nB, nC, reduceCtorEq, nD, nE, nF, nG, iA, iB, iC, iD, *])))); refine Kn.go hK ?_; clear hK K)
  have hc := cfQ Qu.av qu_len l hl (fun q => !anyF fs q) 51 [.p n 1 0 0] (upd H n (.r 77 1 1 [[.l 1 (fs.map fun f => [fnA f.1])]])) (fun q hq => every1_a q fs hfl (fun f hfm => hf f hfm q hq) n _ (upd_same _ _ _))
  repeat' (first
    | refine AW_seq_kn fun K hK => ?_
    | refine AW_block ?_
    | (refine does_call rfl rfl ?_; simp only [push_cast, reduceIte, nA, nB, nC, reduceCtorEq, nD, nE, nF, nG, iA, iB, iC, iD, *]; refine ACall.mono hc ?_; (rintro _ _ ⟨rfl, e2⟩; have e3 := e2.symm; clear e2; subst e3); (try simp only [push_cast, reduceIte, nA, nB, nC, reduceCtorEq, nD, nE, nF, nG, iA, iB, iC, iD, *]))
    | ((first
      | refine AW_region E1 ?_ | refine AW_ret ?_ | refine AW_exit ?_ | refine AW_skip ?_ | unfold retQ); try simp only [push_cast, reduceIte, nA, nB, nC, reduceCtorEq, nD, nE, nF, nG, iA, iB, iC, iD, *])
    | (apply AW_cond; (case hc => (simp only [push_cast, reduceIte, nA, nB, nC, reduceCtorEq, nD, nE, nF, nG, iA, iB, iC, iD]; rfl)); all_goals (intro hc; first | (exfalso; simp only [push_cast, reduceIte, nA, nB, nC, reduceCtorEq, nD, nE, nF, nG, iA, iB, iC, iD, *] at hc; done) | (exact absurd hc (by decide)) | (with_reducible (have hcc : true = true := hc); clear hcc hc) | (with_reducible (have hcc : false = false := hc); clear hcc hc) | ((try simp only [Bool.not_true, Bool.not_false] at hc); (first | (with_reducible (have hcc : true = true := hc); clear hcc hc) | (with_reducible (have hcc : false = false := hc); clear hcc hc) | (have hp := hc; (try simp only [decide_eq_true_eq, decide_eq_false_iff_not, bA, bB, bC, bD, bE, bF, bG, bH] at hp))))))
    | (refine Kn.go hK ?_; clear hK K)
    | refine Kn.go (by assumption) ?_
    | (intro n hn; (try simp only [upd_none2, join_none_iff, ite_none, ne_eq] at hn); (try simp only [push_cast, reduceIte, nA, nB, nC, reduceCtorEq, nD, nE, nF, nG, iA, iB, iC, iD, *]))
    | (intro hc)
    | fail)
  exact ⟨_, _, Weak.less (by (simp only [push_cast, reduceIte, nA, nB, nC, reduceCtorEq, nD, nE, nF, nG, iA, iB, iC, iD, *])), by rw [everyS_eq], rfl⟩
/-- the same, of a row of functions that was just made -/
theorem every_s {x : AV} (l : List Qu) (hl : l.length ≤ maxLen) (fs : List Fq) (hfl : fs.length ≤ maxLen) (hf : ∀ f ∈ fs, ∀ q ∈ l, Pure Try.prog f.1 [.g (Qu.av q)] (.c (.bool (f.2 q)))) (n cap cap0 : Nat) (ty : TypeId) (H : Heap) (hn : H n = some (.r ty 1 cap0 (fs.map fun f => [fnA f.1]))) (hx : Lent H x (.l 4 (l.map Qu.av))) :
    ACall Try.prog 40 [x, .s n 1 0 fs.length cap] H fun r H' => r = .c (.bool (everyS fs l)) ∧ H' = H := by
  have h1 := Lent.s (cap := cap) hn
  rw [List.length_map] at h1
  exact ACall.lend (args' := [.l 4 (l.map Qu.av), .l 1 (fs.map fun f => [fnA f.1])]) (Flat.c _) ⟨hx, h1, trivial⟩ (every_p l hl fs hfl hf).cl
def fsR : List Fq := [(44, rightQ)]
def fsE : List Fq := [(41, Qu.en)]
def fsHE : List Fq := [(43, Qu.he), (41, Qu.en)]
def okL (l : List Qu) : Prop := ∀ q ∈ l, q.el.length ≤ maxLen
theorem everyR_s {x : AV} (l : List Qu) (hl : l.length ≤ maxLen) (hq : okL l) (n cap0 cap : Nat) (ty : TypeId) (H : Heap) (hn : H n = some (.r ty 1 cap0 [[.c (.func (.func 44) #[] #[])]])) (hx : Lent H x (.l 4 (l.map Qu.av))) :
    ACall Try.prog 40 [x, .s n 1 0 1 cap] H fun r H' => r = .c (.bool (everyS fsR l)) ∧ H' = H :=
  every_s l hl fsR (by simp [fsR, maxLen]) (fun f hf q hqm => by
    rcases List.mem_singleton.1 hf with rfl; exact right_p q (hq q hqm)) n cap cap0 ty H hn hx
theorem everyE_s {x : AV} (l : List Qu) (hl : l.length ≤ maxLen) (n cap0 cap : Nat) (ty : TypeId) (H : Heap) (hn : H n = some (.r ty 1 cap0 [[.c (.func (.func 41) #[] #[])]])) (hx : Lent H x (.l 4 (l.map Qu.av))) :
    ACall Try.prog 40 [x, .s n 1 0 1 cap] H fun r H' => r = .c (.bool (everyS fsE l)) ∧ H' = H :=
  every_s l hl fsE (by simp [fsE, maxLen]) (fun f hf q hqm => by
    rcases List.mem_singleton.1 hf with rfl; exact ended_p q) n cap cap0 ty H hn hx
theorem everyHE_s {x : AV} (l : List Qu) (hl : l.length ≤ maxLen) (n cap0 cap : Nat) (ty : TypeId) (H : Heap) (hn : H n = some (.r ty 1 cap0 [[.c (.func (.func 43) #[] #[])], [.c (.func (.func 41) #[] #[])]])) (hx : Lent H x (.l 4 (l.map Qu.av))) :
    ACall Try.prog 40 [x, .s n 1 0 2 cap] H fun r H' => r = .c (.bool (everyS fsHE l)) ∧ H' = H :=
  every_s l hl fsHE (by simp [fsHE, maxLen]) (fun f hf q hqm => by
    rcases List.mem_cons.1 hf with rfl | hf
    · exact held_p q
    · rcases List.mem_singleton.1 hf with rfl; exact ended_p q) n cap cap0 ty H hn hx
theorem someH_p (l : List Qu) (hl : l.length ≤ maxLen) : Pure Try.prog 42 [.l 4 (l.map Qu.av), .c (.func (.func 43) #[] #[])] (.c (.bool (l.any Qu.he))) := fun H =>
  ACall.argw (fun F => Imps.two (Imp.refl (Mem.le.refl _) _) id (Imp.fn _) (fun _ => rfl)) (cfQ Qu.av qu_len l hl Qu.he 43 [] H (fun q _ => held_p q H))
end Go.Proofs.Ytcmpciciodcddaa
