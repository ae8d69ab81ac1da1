/- Walks: no queue held; copies of one's own; an element is put. -/
import Derived.Test.YtcmpciciodcddaaJ
namespace Go.Proofs.Ytcmpciciodcddaa
open Go.RowKit
open Nat renaming reduceEqDiff → nA, reduceLT → nB, reduceLeDiff → nC, reduceAdd → nD, reduceMul → nE, reduceSub → nF, reduceBEq → nG
open Int renaming reduceToNat → iA, reduceLT → iB, reduceLE → iC, reduceEq → iD
open Bool renaming and_eq_true → bA, or_eq_true → bB, or_eq_false_iff → bC, and_eq_false_iff → bD, not_eq_true' → bE, not_eq_false' → bF, not_true → bG, not_false → bH
set_option linter.all false
set_option maxHeartbeats 4000000
attribute [local irreducible] AW Does

def frQ (q : Qu) : Qu := { q with he := false }
def frK (l : List Qu) (k : Nat) : List Qu := (l.take k).map frQ ++ l.drop k
theorem frK_len (l : List Qu) (k : Nat) (h : k ≤ l.length) : (frK l k).length = l.length := by simp [frK]; omega
theorem frK_get {l : List Qu} {k : Nat} {q : Qu} (h : l[k]? = some q) : (frK l k)[k]? = some q := by
  have hk := (List.getElem?_eq_some_iff.1 h).1
  unfold frK
  rw [List.getElem?_append_right (by simp; omega), drop_get h]
  simp
  have : min k l.length = k := by omega
  simp [this]
theorem frK_set {l : List Qu} {k : Nat} {q : Qu} (h : l[k]? = some q) : (frK l k).set k (frQ q) = frK l (k + 1) := by
  have hk := (List.getElem?_eq_some_iff.1 h).1
  unfold frK
  rw [drop_get h, take_snoc_map frQ h, List.set_append_right _ _ (by simp; omega)]
  have : k - ((l.take k).map frQ).length = 0 := by simp; omega
  rw [this]
  simp
def freeS (g : Gt) : Gt := { g with qs := g.qs.map frQ }
theorem frK_all (l : List Qu) : frK l l.length = l.map frQ := by simp [frK]
theorem free15_p (g : Gt) (hs : g.qs.length ≤ 1000) : Pure Try.prog 39 [.g (Gt.av g)] (.g (Gt.av (freeS g))) := by
  intro H
  obtain ⟨l, nu, dn⟩ := g
  have hl := hs
  simp only at hl
  unfold freeS
  refine ACall_of' Try.func39 rfl (Ent_of Try.func39 (by kernel_rfl) rfl) (by simp [Try.ntmps39]) ?_; simp only [Try.ntmps39, Try.results39]
  simp only [Gt.av]
  repeat' (first
    | refine AW_seq_kn fun K hK => ?_
    | refine AW_block ?_
    | (refine does_call rfl rfl ?_; simp only [push_cast, reduceIte, nA, nB, nC, reduceCtorEq, nD, nE, nF, nG, iA, iB, iC, iD, *]; refine ACall.mono (with_p ⟨_, _, _⟩ _ _ (by assumption) _) ?_; (rintro _ _ ⟨rfl, e2⟩; have e3 := e2.symm; clear e2; subst e3); (try simp only [push_cast, reduceIte, nA, nB, nC, reduceCtorEq, nD, nE, nF, nG, iA, iB, iC, iD, *]))
    | ((first
      | refine AW_region E1 ?_ | refine AW_ret ?_ | refine AW_exit ?_ | refine AW_skip ?_ | unfold retQ); try simp only [push_cast, reduceIte, nA, nB, nC, reduceCtorEq, nD, nE, nF, nG, iA, iB, iC, iD, *])
    | (apply AW_cond; (case hc => (simp only [push_cast, reduceIte, nA, nB, nC, reduceCtorEq, nD, nE, nF, nG, iA, iB, iC, iD]; rfl)); all_goals (intro hc; first | (exfalso; simp only [push_cast, reduceIte, nA, nB, nC, reduceCtorEq, nD, nE, nF, nG, iA, iB, iC, iD, *] at hc; done) | (exact absurd hc (by decide)) | (with_reducible (have hcc : true = true := hc); clear hcc hc) | (with_reducible (have hcc : false = false := hc); clear hcc hc) | ((try simp only [Bool.not_true, Bool.not_false] at hc); (first | (with_reducible (have hcc : true = true := hc); clear hcc hc) | (with_reducible (have hcc : false = false := hc); clear hcc hc) | (have hp := hc; (try simp only [decide_eq_true_eq, decide_eq_false_iff_not, bA, bB, bC, bD, bE, bF, bG, bH] at hp))))))
    | (refine Kn.go hK ?_; clear hK K)
    | refine Kn.go (by assumption) ?_
    | (intro n hn; (try simp only [upd_none2, join_none_iff, ite_none, ne_eq] at hn); (try simp only [push_cast, reduceIte, nA, nB, nC, reduceCtorEq, nD, nE, nF, nG, iA, iB, iC, iD, *]))
    | (intro hc)
    | fail)
  rename_i n1 h1
  generalize n = n2 at *
  refine AW_loopN l.length (fun _ => True) (fun k => [(1, .p n1 3 0 0), (2, .p n2 3 0 0), (3, ci k)]) (fun k => upd (upd H n1 (.r 25 3 1 [[.l 4 ((frK l k).map Qu.av), .c (.int .u64 nu), .c (.int .u64 dn)]])) n2 (.r 25 3 1 [[.c (.slice none 0 0), .c (.int .u64 0), .c (.int .u64 0)]])) trivial ?_ ?_ ?_ ?_
  · (first | trivial | (simp only [push_cast, reduceIte, nA, nB, nC, reduceCtorEq, nD, nE, nF, nG, iA, iB, iC, iD, *]; done))
  · have e0 : frK l 0 = l := by simp [frK]
    rw [e0]
    exact Heap.le_refl _
  · intro k hk _
    have hl' : l.length < 2 ^ 60 := by omega
    have hz := List.getElem?_eq_getElem (l := l) hk; generalize l[k] = z at hz; have hzm := List.mem_of_getElem? hz; have hkl : (k : Int) < l.length := (by omega); have hkw : IntKind.i64.wrap ((k : Int) + 1) = (k : Int) + 1 := wrap_i64 (by omega) (by omega)
    have htk : List.take 4 (Qu.av z) = Qu.av z := rfl
    have hfl := frK_len l k (by omega)
    have hfk := frK_get hz
    have hset := frK_set hz
    have hwi := with_p ⟨frK l k, nu, dn⟩ k (frQ z) (by simp only; omega)
    simp only [withS, hset] at hwi
    simp only [Gt.av, Qu.av, frQ] at hwi
    replace hset := Lib.hid hset
    repeat' (first
    | refine AW_seq_kn fun K hK => ?_
    | refine AW_block ?_
    | (refine does_call rfl rfl ?_; simp only [push_cast, reduceIte, nA, nB, nC, reduceCtorEq, nD, nE, nF, nG, iA, iB, iC, iD, *]; refine ACall.mono (hwi _) ?_; (rintro _ _ ⟨rfl, e2⟩; have e3 := e2.symm; clear e2; subst e3); (try simp only [push_cast, reduceIte, nA, nB, nC, reduceCtorEq, nD, nE, nF, nG, iA, iB, iC, iD, *]))
    | (refine does_call rfl rfl ?_; simp only [push_cast, reduceIte, nA, nB, nC, reduceCtorEq, nD, nE, nF, nG, iA, iB, iC, iD, *]; refine ACall.mono (with_p ⟨_, _, _⟩ _ _ (by assumption) _) ?_; (rintro _ _ ⟨rfl, e2⟩; have e3 := e2.symm; clear e2; subst e3); (try simp only [push_cast, reduceIte, nA, nB, nC, reduceCtorEq, nD, nE, nF, nG, iA, iB, iC, iD, *]))
    | ((first
      | refine AW_region E1 ?_ | refine AW_ret ?_ | refine AW_exit ?_ | refine AW_skip ?_ | unfold retQ); try simp only [push_cast, reduceIte, nA, nB, nC, reduceCtorEq, nD, nE, nF, nG, iA, iB, iC, iD, *])
    | (apply AW_cond; (case hc => (simp only [push_cast, reduceIte, nA, nB, nC, reduceCtorEq, nD, nE, nF, nG, iA, iB, iC, iD]; rfl)); all_goals (intro hc; first | (exfalso; simp only [push_cast, reduceIte, nA, nB, nC, reduceCtorEq, nD, nE, nF, nG, iA, iB, iC, iD, *] at hc; done) | (exact absurd hc (by decide)) | (with_reducible (have hcc : true = true := hc); clear hcc hc) | (with_reducible (have hcc : false = false := hc); clear hcc hc) | ((try simp only [Bool.not_true, Bool.not_false] at hc); (first | (with_reducible (have hcc : true = true := hc); clear hcc hc) | (with_reducible (have hcc : false = false := hc); clear hcc hc) | (have hp := hc; (try simp only [decide_eq_true_eq, decide_eq_false_iff_not, bA, bB, bC, bD, bE, bF, bG, bH] at hp))))))
    | (refine Kn.go hK ?_; clear hK K)
    | refine Kn.go (by assumption) ?_
    | (intro n hn; (try simp only [upd_none2, join_none_iff, ite_none, ne_eq] at hn); (try simp only [push_cast, reduceIte, nA, nB, nC, reduceCtorEq, nD, nE, nF, nG, iA, iB, iC, iD, *]))
    | (intro hc)
    | fail)
    exact ⟨trivial, by (first | trivial | (simp only [push_cast, reduceIte, nA, nB, nC, reduceCtorEq, nD, nE, nF, nG, iA, iB, iC, iD, *]; done)), by first | exact Heap.le_refl _ | (first | trivial | ((simp only [push_cast, reduceIte, nA, nB, nC, reduceCtorEq, nD, nE, nF, nG, iA, iB, iC, iD, *]); repeat' (first | rfl | exact Heap.le_refl _ | refine And.intro ?_ ?_)) | rfl | exact ⟨rfl, rfl⟩ | exact ⟨rfl, rfl, rfl⟩ | exact Heap.le_refl _)⟩
  · intro _
    rw [frK_all]
    repeat' (first
    | refine AW_seq_kn fun K hK => ?_
    | refine AW_block ?_
    | (refine does_call rfl rfl ?_; simp only [push_cast, reduceIte, nA, nB, nC, reduceCtorEq, nD, nE, nF, nG, iA, iB, iC, iD, *]; refine ACall.mono (with_p ⟨_, _, _⟩ _ _ (by assumption) _) ?_; (rintro _ _ ⟨rfl, e2⟩; have e3 := e2.symm; clear e2; subst e3); (try simp only [push_cast, reduceIte, nA, nB, nC, reduceCtorEq, nD, nE, nF, nG, iA, iB, iC, iD, *]))
    | ((first
      | refine AW_region E1 ?_ | refine AW_ret ?_ | refine AW_exit ?_ | refine AW_skip ?_ | unfold retQ); try simp only [push_cast, reduceIte, nA, nB, nC, reduceCtorEq, nD, nE, nF, nG, iA, iB, iC, iD, *])
    | (apply AW_cond; (case hc => (simp only [push_cast, reduceIte, nA, nB, nC, reduceCtorEq, nD, nE, nF, nG, iA, iB, iC, iD]; rfl)); all_goals (intro hc; first | (exfalso; simp only [push_cast, reduceIte, nA, nB, nC, reduceCtorEq, nD, nE, nF, nG, iA, iB, iC, iD, *] at hc; done) | (exact absurd hc (by decide)) | (with_reducible (have hcc : true = true := hc); clear hcc hc) | (with_reducible (have hcc : false = false := hc); clear hcc hc) | ((try simp only [Bool.not_true, Bool.not_false] at hc); (first | (with_reducible (have hcc : true = true := hc); clear hcc hc) | (with_reducible (have hcc : false = false := hc); clear hcc hc) | (have hp := hc; (try simp only [decide_eq_true_eq, decide_eq_false_iff_not, bA, bB, bC, bD, bE, bF, bG, bH] at hp))))))
    | (refine Kn.go hK ?_; clear hK K)
    | refine Kn.go (by assumption) ?_
    | (intro n hn; (try simp only [upd_none2, join_none_iff, ite_none, ne_eq] at hn); (try simp only [push_cast, reduceIte, nA, nB, nC, reduceCtorEq, nD, nE, nF, nG, iA, iB, iC, iD, *]))
    | (intro hc)
    | fail)
    exact ⟨_, _, Weak.less (by (simp only [push_cast, reduceIte, nA, nB, nC, reduceCtorEq, nD, nE, nF, nG, iA, iB, iC, iD, *])), rfl, rfl⟩
theorem copied_o (g : Gt) (hs : g.qs.length ≤ 1000) (H : Heap) : ACall Try.prog 30 [.g (Gt.av g)] H fun r H' => ∃ m, H m = none ∧ r = .g [.s m 4 0 g.qs.length g.qs.length, .c (.int .u64 g.nu), .c (.int .u64 g.dn)] ∧ H' = upd H m (.r 39 4 g.qs.length (g.qs.map Qu.av)) := by
  obtain ⟨l, nu, dn⟩ := g
  simp only at hs
  have hE := tE22
  have hS := tS39
  have hB := tB39
  have hZ := tZ39
  refine ACall_of' Try.func30 rfl (Ent_of Try.func30 (by kernel_rfl) rfl) (by simp [Try.ntmps30]) ?_; simp only [Try.ntmps30, Try.results30]
  simp only [Gt.av]
  repeat' (first
    | refine AW_seq_kn fun K hK => ?_
    | refine AW_block ?_
    | (refine does_makeS rfl rfl rfl hE hS hB hZ rfl (by decide) (by decide) (by unfold maxLen; omega) (by omega) ?_; intro m hm; simp only [upd_none2, ne_eq] at hm; (try simp only [push_cast, reduceIte, nA, nB, nC, reduceCtorEq, nD, nE, nF, nG, iA, iB, iC, iD, *]))
    | (refine does_copyL rfl rfl rfl (upd_same _ _ _) (by simp) (by simp) hE hS ?_; (try simp only [push_cast, reduceIte, nA, nB, nC, reduceCtorEq, nD, nE, nF, nG, iA, iB, iC, iD, *]))
    | ((first
      | refine AW_region E1 ?_ | refine AW_ret ?_ | refine AW_exit ?_ | refine AW_skip ?_ | unfold retQ); try simp only [push_cast, reduceIte, nA, nB, nC, reduceCtorEq, nD, nE, nF, nG, iA, iB, iC, iD, *])
    | (apply AW_cond; (case hc => (simp only [push_cast, reduceIte, nA, nB, nC, reduceCtorEq, nD, nE, nF, nG, iA, iB, iC, iD]; rfl)); all_goals (intro hc; first | (exfalso; simp only [push_cast, reduceIte, nA, nB, nC, reduceCtorEq, nD, nE, nF, nG, iA, iB, iC, iD, *] at hc; done) | (exact absurd hc (by decide)) | (with_reducible (have hcc : true = true := hc); clear hcc hc) | (with_reducible (have hcc : false = false := hc); clear hcc hc) | ((try simp only [Bool.not_true, Bool.not_false] at hc); (first | (with_reducible (have hcc : true = true := hc); clear hcc hc) | (with_reducible (have hcc : false = false := hc); clear hcc hc) | (have hp := hc; (try simp only [decide_eq_true_eq, decide_eq_false_iff_not, bA, bB, bC, bD, bE, bF, bG, bH] at hp))))))
    | (refine Kn.go hK ?_; clear hK K)
    | refine Kn.go (by assumption) ?_
    | (intro n hn; (try simp only [upd_none2, join_none_iff, ite_none, ne_eq] at hn); (try simp only [push_cast, reduceIte, nA, nB, nC, reduceCtorEq, nD, nE, nF, nG, iA, iB, iC, iD, *]))
    | (intro hc)
    | fail)
  rename_i n1 h1
  refine ⟨_, upd H m (.r 39 4 l.length (l.map Qu.av)), Weak.less ?_, m, hm.2.2, rfl, rfl⟩
  intro q b hq
  simp only [upd_get] at hq ⊢
  by_cases c1 : q = m
  · simp only [c1, if_true, reduceIte] at hq ⊢
    simp_all
  · rw [if_neg c1] at hq
    have c2 : ¬ q = n := by rintro rfl; rw [hn.2] at hq; cases hq
    have c3 : ¬ q = n1 := by rintro rfl; rw [h1] at hq; cases hq
    simp [c1, c2, c3, hq]
end Go.Proofs.Ytcmpciciodcddaa
