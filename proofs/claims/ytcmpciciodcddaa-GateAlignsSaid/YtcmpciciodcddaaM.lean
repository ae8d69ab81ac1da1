/- Walks: an element is put, as the document says. -/
import Derived.Test.YtcmpciciodcddaaL
namespace Go.Proofs.Ytcmpciciodcddaa
open Go.RowKit
open Nat renaming reduceEqDiff → nA, reduceLT → nB, reduceLeDiff → nC, reduceAdd → nD, reduceMul → nE, reduceSub → nF, reduceBEq → nG
open Int renaming reduceToNat → iA, reduceLT → iB, reduceLE → iC, reduceEq → iD
open Bool renaming and_eq_true → bA, or_eq_true → bB, or_eq_false_iff → bC, and_eq_false_iff → bD, not_eq_true' → bE, not_eq_false' → bF, not_true → bG, not_false → bH
set_option linter.all false
set_option maxHeartbeats 4000000
attribute [local irreducible] AW Does


theorem elOk_n {e : El} (h : elOk e = true) (h2 : ¬ e.kd = 2) : e.n = 0 := by
  unfold elOk at h
  by_cases h1 : e.kd = 1
  · simp [h1] at h; exact h.2
  · by_cases h3 : e.kd = 3
    · simp [h3] at h; exact h.2
    · simp [h1, h2, h3] at h
theorem rightQ_row {q : Qu} (h : rightQ q = true) : rowS q.el = true := by
  simp only [rightQ, Bool.and_eq_true] at h; exact h.1.2
theorem closedR_p (q : Qu) (hr : rightQ q = true) : Pure Try.prog 15 [.g (Qu.av q)] (.c (.bool (closedS q))) := by
  have h4 := rightQ_len hr
  rw [← clAny_eq (rightQ_row hr)]
  exact closed_p q (by unfold maxLen; omega)

theorem rpush_ok (l : List Qu) (nu dn : Int) (k : Nat) (ql : List El) (qla : Int) (qhe qen : Bool) (e : El) (H : Heap) (hg : Wf ⟨l, nu, dn⟩) (hs : l.length ≤ 1000) (hok : gOk ⟨l, nu, dn⟩ = true) (c0 : ¬ (k : Int) < 0) (hk : l[k]? = some ⟨ql, qla, qhe, qen⟩) (hkl : ¬ (l.length : Int) ≤ (k : Int)) (hklt : (k : Int) < (l.length : Int)) (hr : rightQ ⟨ql, qla, qhe, qen⟩ = true) (h4 : ql.length ≤ 4) (hel : elOk e = true) (hcl : closedS ⟨ql, qla, qhe, qen⟩ = false) (cl4' : ¬ (ql.length : Int) = 4) (hla : 0 ≤ qla)
    (hkn : (¬ e.kd = 2 ∧ e.n = 0) ∨ (e.kd = 2 ∧ ¬ e.n ≤ qla)) : ACall Try.prog 13 [.g (Gt.av ⟨l, nu, dn⟩), .c (.int .i64 (k : Int)), .g (El.av e)] H fun r H' => r = .t [.g (Gt.av (withS ⟨l, nu, dn⟩ k (pushQ ⟨ql, qla, qhe, qen⟩ e))), .c (.int .i64 0)] ∧ H' = H := by
  show ACall _ _ _ _ fun r H' => r = .t [.g (Gt.av ⟨l.set k (pushQ ⟨ql, qla, qhe, qen⟩ e), nu, dn⟩), .c (.int .i64 0)] ∧ H' = H
  have hq : pushQ ⟨ql, qla, qhe, qen⟩ e = ⟨ql ++ [e], if e.kd = 2 then e.n else qla, qhe, qen⟩ := by
    unfold pushQ
    rcases hkn with ⟨h1, h2⟩ | ⟨h1, h2⟩
    · simp [h1, h2]; omega
    · simp [h1]; omega
  have hwi : Pure Try.prog 33 [.g (Gt.av ⟨l, nu, dn⟩), .c (.int .i64 (k : Int)), .g (Qu.av (pushQ ⟨ql, qla, qhe, qen⟩ e))] (.g (Gt.av ⟨l.set k (pushQ ⟨ql, qla, qhe, qen⟩ e), nu, dn⟩)) := with_p ⟨l, nu, dn⟩ k (pushQ ⟨ql, qla, qhe, qen⟩ e) hs
  generalize l.set k (pushQ ⟨ql, qla, qhe, qen⟩ e) = L at *
  rw [hq] at hwi
  simp only [Gt.av, Qu.av, List.map_append, List.map_cons, List.map_nil, El.av] at hwi
  clear hq
  have hkt : (e.kd = 2) = True ∨ ¬ e.kd = 2 := by
    by_cases c : e.kd = 2
    · exact .inl (by simp [c])
    · exact .inr c
  have hkn' : ¬ e.kd = 2 ∨ ¬ e.n ≤ qla := by
    rcases hkn with ⟨h1, h2⟩ | ⟨h1, h2⟩
    · exact .inl h1
    · exact .inr h2
  refine ACall_of' Try.func13 rfl (Ent_of Try.func13 (by kernel_rfl) rfl) (by simp [Try.ntmps13]) ?_; simp only [Try.ntmps13, Try.results13]
  simp only [Gt.av]
  rcases hkn with ⟨hk2, hk0⟩ | ⟨hk2, hk3⟩
  case' inr =>
    have hkT : (e.kd = 2) = True := by simp [hk2]
    clear hk2
    simp only [hkT, if_true] at hwi
  case' inl => simp only [hk2, if_false] at hwi
  all_goals
    clear hkt hkn'
    try clear hk0
    repeat' (first
    | refine AW_seq_kn fun K hK => ?_
    | refine AW_block ?_
    | (refine does_call rfl rfl ?_; simp only [push_cast, reduceIte, nA, nB, nC, reduceCtorEq, nD, nE, nF, nG, iA, iB, iC, iD, *]; refine ACall.mono (rightElem_p _ _) ?_; (rintro _ _ ⟨rfl, e2⟩; have e3 := e2.symm; clear e2; subst e3); (try simp only [push_cast, reduceIte, nA, nB, nC, reduceCtorEq, nD, nE, nF, nG, iA, iB, iC, iD, *]))
    | (refine does_call rfl rfl ?_; simp only [push_cast, reduceIte, nA, nB, nC, reduceCtorEq, nD, nE, nF, nG, iA, iB, iC, iD, *]; refine ACall.mono (with_p ⟨_, _, _⟩ _ _ (by assumption) _) ?_; (rintro _ _ ⟨rfl, e2⟩; have e3 := e2.symm; clear e2; subst e3); (try simp only [push_cast, reduceIte, nA, nB, nC, reduceCtorEq, nD, nE, nF, nG, iA, iB, iC, iD, *]))
    | (refine does_call rfl rfl ?_; simp only [push_cast, reduceIte, nA, nB, nC, reduceCtorEq, nD, nE, nF, nG, iA, iB, iC, iD, *]; refine ACall.mono (right15_p ⟨_, _, _⟩ (by assumption) _) ?_; (rintro _ _ ⟨rfl, e2⟩; have e3 := e2.symm; clear e2; subst e3); (try simp only [push_cast, reduceIte, nA, nB, nC, reduceCtorEq, nD, nE, nF, nG, iA, iB, iC, iD, *]))
    | (refine does_call rfl rfl ?_; simp only [push_cast, reduceIte, nA, nB, nC, reduceCtorEq, nD, nE, nF, nG, iA, iB, iC, iD, *]; refine ACall.mono (closedR_p ⟨_, _, _, _⟩ (by assumption) _) ?_; (rintro _ _ ⟨rfl, e2⟩; have e3 := e2.symm; clear e2; subst e3); (try simp only [push_cast, reduceIte, nA, nB, nC, reduceCtorEq, nD, nE, nF, nG, iA, iB, iC, iD, *]))
    | ((first
      | refine AW_region E1 ?_ | refine AW_ret ?_ | refine AW_exit ?_ | refine AW_skip ?_ | unfold retQ); try simp only [push_cast, reduceIte, nA, nB, nC, reduceCtorEq, nD, nE, nF, nG, iA, iB, iC, iD, *])
    | (apply AW_cond; (case hc => (simp only [push_cast, reduceIte, nA, nB, nC, reduceCtorEq, nD, nE, nF, nG, iA, iB, iC, iD]; rfl)); all_goals (intro hc; first | (exfalso; simp only [push_cast, reduceIte, nA, nB, nC, reduceCtorEq, nD, nE, nF, nG, iA, iB, iC, iD, *] at hc; done) | (exact absurd hc (by decide)) | (with_reducible (have hcc : true = true := hc); clear hcc hc) | (with_reducible (have hcc : false = false := hc); clear hcc hc) | ((try simp only [Bool.not_true, Bool.not_false] at hc); (first | (with_reducible (have hcc : true = true := hc); clear hcc hc) | (with_reducible (have hcc : false = false := hc); clear hcc hc) | (have hp := hc; (try simp only [decide_eq_true_eq, decide_eq_false_iff_not, bA, bB, bC, bD, bE, bF, bG, bH] at hp))))))
    | (refine Kn.go hK ?_; clear hK K)
    | refine Kn.go (by assumption) ?_
    | (intro n hn; (try simp only [upd_none2, join_none_iff, ite_none, ne_eq] at hn); (try simp only [push_cast, reduceIte, nA, nB, nC, reduceCtorEq, nD, nE, nF, nG, iA, iB, iC, iD, *]))
    | (intro hc)
    | (apply ER_blk; (case hp => rfl); (case hb => (simp only [push_cast, reduceIte, nA, nB, nC, reduceCtorEq, nD, nE, nF, nG, iA, iB, iC, iD]; rfl)); (case hd => (simp only [push_cast, reduceIte, nA, nB, nC, reduceCtorEq, nD, nE, nF, nG, iA, iB, iC, iD]; done)); (case h => (intro hc; simp only [push_cast, reduceIte, nA, nB, nC, reduceCtorEq, nD, nE, nF, nG, iA, iB, iC, iD, *]; rfl)); simp only [push_cast, reduceIte, nA, nB, nC, reduceCtorEq, nD, nE, nF, nG, iA, iB, iC, iD, *])
    | (apply ER_guard; (case hb => (simp only [push_cast, reduceIte, nA, nB, nC, reduceCtorEq, nD, nE, nF, nG, iA, iB, iC, iD]; rfl)); all_goals ((intro hc; first | (exfalso; simp only [push_cast, reduceIte, nA, nB, nC, reduceCtorEq, nD, nE, nF, nG, iA, iB, iC, iD, *] at hc; done) | (exact absurd hc (by decide)) | (with_reducible (have hcc : true = true := hc); clear hcc hc) | (with_reducible (have hcc : false = false := hc); clear hcc hc) | ((try simp only [Bool.not_true, Bool.not_false] at hc); (first | (with_reducible (have hcc : true = true := hc); clear hcc hc) | (with_reducible (have hcc : false = false := hc); clear hcc hc) | (have hp := hc; (try simp only [decide_eq_true_eq, decide_eq_false_iff_not, bA, bB, bC, bD, bE, bF, bG, bH] at hp))))) <;> try simp only [push_cast, reduceIte, nA, nB, nC, reduceCtorEq, nD, nE, nF, nG, iA, iB, iC, iD, *]))
    | fail)
    rename_i n1 h1 n2 h2 n3 h3
    generalize n = n4 at *
    obtain ⟨H0, hH0⟩ : ∃ H0 : Heap, H0 = upd (upd (upd (upd H n1 (.r 25 3 1 [[.l 4 (l.map Qu.av), .c (.int .u64 nu), .c (.int .u64 dn)]])) n2 (.r 29 5 1 [El.av e])) n3 (.r 25 3 1 [[.c (.slice none 0 0), .c (.int .u64 0), .c (.int .u64 0)]])) n4 (.r 39 4 1 [[.l 5 (ql.map El.av), .c (.int .u64 qla), .c (.bool qhe), .c (.bool qen)]]) := ⟨_, rfl⟩
    have g1 : H0 n1 = some (.r 25 3 1 [[.l 4 (l.map Qu.av), .c (.int .u64 nu), .c (.int .u64 dn)]]) := by rw [hH0]; simp only [El.av, push_cast, reduceIte, nA, nB, nC, reduceCtorEq, nD, nE, nF, nG, iA, iB, iC, iD, *]
    have g4 : H0 n4 = some (.r 39 4 1 [[.l 5 (ql.map El.av), .c (.int .u64 qla), .c (.bool qhe), .c (.bool qen)]]) := by rw [hH0]; exact upd_same _ _ _
    have hH0' := hH0
    simp only [El.av] at hH0
    rw [← hH0]
    replace hH0 := Lib.hid hH0
    clear hH0'
    refine AW_loopX (σ := AV × Heap) ql.length (fun j s => OwnL s.2 s.1 29 5 ((ql.take j).map El.av) H0) (fun j s => [(1, .c (.int .i64 (k : Int))), (3, .p n1 3 0 0), (5, .p n2 5 0 0), (6, .p n3 3 0 0), (8, .p n4 4 0 0), (9, s.1), (10, ci j)]) (fun _ s => s.2) (.c (.slice none 0 0), H0) (.inl ⟨⟨_, rfl⟩, rfl, rfl⟩) ?_ ?_ ?_ ?_
    · (first | trivial | (simp only [push_cast, reduceIte, nA, nB, nC, reduceCtorEq, nD, nE, nF, nG, iA, iB, iC, iD, *]; done))
    · exact Heap.le_refl _
    · rintro j ⟨x, B⟩ hj hown
      simp only at hown
      have hkt := hown.get g4
      have hcs := hown.cs
      have hlq : ql.length < 2 ^ 60 := by omega
      have hz := List.getElem?_eq_getElem (l := ql) hj; generalize ql[j] = z at hz; have hzm := List.mem_of_getElem? hz; have hjl : (j : Int) < ql.length := (by omega); have hjw : IntKind.i64.wrap ((j : Int) + 1) = (j : Int) + 1 := wrap_i64 (by omega) (by omega)
      have htk : List.take 5 (El.av z) = El.av z := rfl
      have hrl : ((ql.take j).map El.av).length ≤ 4 := by simp; omega
      clear hwi
      repeat' (first
    | refine AW_seq_kn fun K hK => ?_
    | refine AW_block ?_
    | (refine does_call rfl rfl ?_; simp only [push_cast, reduceIte, nA, nB, nC, reduceCtorEq, nD, nE, nF, nG, iA, iB, iC, iD, *]; refine ACall.mono (rightElem_p _ _) ?_; (rintro _ _ ⟨rfl, e2⟩; have e3 := e2.symm; clear e2; subst e3); (try simp only [push_cast, reduceIte, nA, nB, nC, reduceCtorEq, nD, nE, nF, nG, iA, iB, iC, iD, *]))
    | (refine does_call rfl rfl ?_; simp only [push_cast, reduceIte, nA, nB, nC, reduceCtorEq, nD, nE, nF, nG, iA, iB, iC, iD, *]; refine ACall.mono (with_p ⟨_, _, _⟩ _ _ (by assumption) _) ?_; (rintro _ _ ⟨rfl, e2⟩; have e3 := e2.symm; clear e2; subst e3); (try simp only [push_cast, reduceIte, nA, nB, nC, reduceCtorEq, nD, nE, nF, nG, iA, iB, iC, iD, *]))
    | (refine does_call rfl rfl ?_; simp only [push_cast, reduceIte, nA, nB, nC, reduceCtorEq, nD, nE, nF, nG, iA, iB, iC, iD, *]; refine ACall.mono (right15_p ⟨_, _, _⟩ (by assumption) _) ?_; (rintro _ _ ⟨rfl, e2⟩; have e3 := e2.symm; clear e2; subst e3); (try simp only [push_cast, reduceIte, nA, nB, nC, reduceCtorEq, nD, nE, nF, nG, iA, iB, iC, iD, *]))
    | (refine does_call rfl rfl ?_; simp only [push_cast, reduceIte, nA, nB, nC, reduceCtorEq, nD, nE, nF, nG, iA, iB, iC, iD, *]; refine ACall.mono (closedR_p ⟨_, _, _, _⟩ (by assumption) _) ?_; (rintro _ _ ⟨rfl, e2⟩; have e3 := e2.symm; clear e2; subst e3); (try simp only [push_cast, reduceIte, nA, nB, nC, reduceCtorEq, nD, nE, nF, nG, iA, iB, iC, iD, *]))
    | ((first
      | refine AW_region E1 ?_ | refine AW_ret ?_ | refine AW_exit ?_ | refine AW_skip ?_ | unfold retQ); try simp only [push_cast, reduceIte, nA, nB, nC, reduceCtorEq, nD, nE, nF, nG, iA, iB, iC, iD, *])
    | (apply AW_cond; (case hc => (simp only [push_cast, reduceIte, nA, nB, nC, reduceCtorEq, nD, nE, nF, nG, iA, iB, iC, iD]; rfl)); all_goals (intro hc; first | (exfalso; simp only [push_cast, reduceIte, nA, nB, nC, reduceCtorEq, nD, nE, nF, nG, iA, iB, iC, iD, *] at hc; done) | (exact absurd hc (by decide)) | (with_reducible (have hcc : true = true := hc); clear hcc hc) | (with_reducible (have hcc : false = false := hc); clear hcc hc) | ((try simp only [Bool.not_true, Bool.not_false] at hc); (first | (with_reducible (have hcc : true = true := hc); clear hcc hc) | (with_reducible (have hcc : false = false := hc); clear hcc hc) | (have hp := hc; (try simp only [decide_eq_true_eq, decide_eq_false_iff_not, bA, bB, bC, bD, bE, bF, bG, bH] at hp))))))
    | (refine Kn.go hK ?_; clear hK K)
    | refine Kn.go (by assumption) ?_
    | (intro n hn; (try simp only [upd_none2, join_none_iff, ite_none, ne_eq] at hn); (try simp only [push_cast, reduceIte, nA, nB, nC, reduceCtorEq, nD, nE, nF, nG, iA, iB, iC, iD, *]))
    | (intro hc)
    | (apply ER_blk; (case hp => rfl); (case hb => (simp only [push_cast, reduceIte, nA, nB, nC, reduceCtorEq, nD, nE, nF, nG, iA, iB, iC, iD]; rfl)); (case hd => (simp only [push_cast, reduceIte, nA, nB, nC, reduceCtorEq, nD, nE, nF, nG, iA, iB, iC, iD]; done)); (case h => (intro hc; simp only [push_cast, reduceIte, nA, nB, nC, reduceCtorEq, nD, nE, nF, nG, iA, iB, iC, iD, *]; rfl)); simp only [push_cast, reduceIte, nA, nB, nC, reduceCtorEq, nD, nE, nF, nG, iA, iB, iC, iD, *])
    | (apply ER_guard; (case hb => (simp only [push_cast, reduceIte, nA, nB, nC, reduceCtorEq, nD, nE, nF, nG, iA, iB, iC, iD]; rfl)); all_goals ((intro hc; first | (exfalso; simp only [push_cast, reduceIte, nA, nB, nC, reduceCtorEq, nD, nE, nF, nG, iA, iB, iC, iD, *] at hc; done) | (exact absurd hc (by decide)) | (with_reducible (have hcc : true = true := hc); clear hcc hc) | (with_reducible (have hcc : false = false := hc); clear hcc hc) | ((try simp only [Bool.not_true, Bool.not_false] at hc); (first | (with_reducible (have hcc : true = true := hc); clear hcc hc) | (with_reducible (have hcc : false = false := hc); clear hcc hc) | (have hp := hc; (try simp only [decide_eq_true_eq, decide_eq_false_iff_not, bA, bB, bC, bD, bE, bF, bG, bH] at hp))))) <;> try simp only [push_cast, reduceIte, nA, nB, nC, reduceCtorEq, nD, nE, nF, nG, iA, iB, iC, iD, *]))
    | fail)
      refine does_app1 rfl rfl rfl rfl hown (by assumption) tE37 tS29 tB29 tZ29 rfl (by decide) ?_ ?_ ?_
      · unfold maxLen; omega
      · omega
      intro x' H' hown'
      have hcs' := hown'.cs
      rw [show [[AV.c (Value.int IntKind.i64 z.kd), AV.c (Value.int IntKind.i64 z.s), AV.c (Value.int IntKind.i64 z.k), AV.c (Value.int IntKind.i64 z.v), AV.c (Value.int IntKind.u64 z.n)]] = [El.av z] from rfl, ← take_snoc_map El.av hz] at hown'
      replace hown' := Lib.hid hown'
      clear hown hcs hkt
      (try simp only [push_cast, reduceIte, nA, nB, nC, reduceCtorEq, nD, nE, nF, nG, iA, iB, iC, iD, *])
      repeat' (first
    | refine AW_seq_kn fun K hK => ?_
    | refine AW_block ?_
    | (refine does_call rfl rfl ?_; simp only [push_cast, reduceIte, nA, nB, nC, reduceCtorEq, nD, nE, nF, nG, iA, iB, iC, iD, *]; refine ACall.mono (rightElem_p _ _) ?_; (rintro _ _ ⟨rfl, e2⟩; have e3 := e2.symm; clear e2; subst e3); (try simp only [push_cast, reduceIte, nA, nB, nC, reduceCtorEq, nD, nE, nF, nG, iA, iB, iC, iD, *]))
    | (refine does_call rfl rfl ?_; simp only [push_cast, reduceIte, nA, nB, nC, reduceCtorEq, nD, nE, nF, nG, iA, iB, iC, iD, *]; refine ACall.mono (with_p ⟨_, _, _⟩ _ _ (by assumption) _) ?_; (rintro _ _ ⟨rfl, e2⟩; have e3 := e2.symm; clear e2; subst e3); (try simp only [push_cast, reduceIte, nA, nB, nC, reduceCtorEq, nD, nE, nF, nG, iA, iB, iC, iD, *]))
    | (refine does_call rfl rfl ?_; simp only [push_cast, reduceIte, nA, nB, nC, reduceCtorEq, nD, nE, nF, nG, iA, iB, iC, iD, *]; refine ACall.mono (right15_p ⟨_, _, _⟩ (by assumption) _) ?_; (rintro _ _ ⟨rfl, e2⟩; have e3 := e2.symm; clear e2; subst e3); (try simp only [push_cast, reduceIte, nA, nB, nC, reduceCtorEq, nD, nE, nF, nG, iA, iB, iC, iD, *]))
    | (refine does_call rfl rfl ?_; simp only [push_cast, reduceIte, nA, nB, nC, reduceCtorEq, nD, nE, nF, nG, iA, iB, iC, iD, *]; refine ACall.mono (closedR_p ⟨_, _, _, _⟩ (by assumption) _) ?_; (rintro _ _ ⟨rfl, e2⟩; have e3 := e2.symm; clear e2; subst e3); (try simp only [push_cast, reduceIte, nA, nB, nC, reduceCtorEq, nD, nE, nF, nG, iA, iB, iC, iD, *]))
    | ((first
      | refine AW_region E1 ?_ | refine AW_ret ?_ | refine AW_exit ?_ | refine AW_skip ?_ | unfold retQ); try simp only [push_cast, reduceIte, nA, nB, nC, reduceCtorEq, nD, nE, nF, nG, iA, iB, iC, iD, *])
    | (apply AW_cond; (case hc => (simp only [push_cast, reduceIte, nA, nB, nC, reduceCtorEq, nD, nE, nF, nG, iA, iB, iC, iD]; rfl)); all_goals (intro hc; first | (exfalso; simp only [push_cast, reduceIte, nA, nB, nC, reduceCtorEq, nD, nE, nF, nG, iA, iB, iC, iD, *] at hc; done) | (exact absurd hc (by decide)) | (with_reducible (have hcc : true = true := hc); clear hcc hc) | (with_reducible (have hcc : false = false := hc); clear hcc hc) | ((try simp only [Bool.not_true, Bool.not_false] at hc); (first | (with_reducible (have hcc : true = true := hc); clear hcc hc) | (with_reducible (have hcc : false = false := hc); clear hcc hc) | (have hp := hc; (try simp only [decide_eq_true_eq, decide_eq_false_iff_not, bA, bB, bC, bD, bE, bF, bG, bH] at hp))))))
    | (refine Kn.go hK ?_; clear hK K)
    | refine Kn.go (by assumption) ?_
    | (intro n hn; (try simp only [upd_none2, join_none_iff, ite_none, ne_eq] at hn); (try simp only [push_cast, reduceIte, nA, nB, nC, reduceCtorEq, nD, nE, nF, nG, iA, iB, iC, iD, *]))
    | (intro hc)
    | (apply ER_blk; (case hp => rfl); (case hb => (simp only [push_cast, reduceIte, nA, nB, nC, reduceCtorEq, nD, nE, nF, nG, iA, iB, iC, iD]; rfl)); (case hd => (simp only [push_cast, reduceIte, nA, nB, nC, reduceCtorEq, nD, nE, nF, nG, iA, iB, iC, iD]; done)); (case h => (intro hc; simp only [push_cast, reduceIte, nA, nB, nC, reduceCtorEq, nD, nE, nF, nG, iA, iB, iC, iD, *]; rfl)); simp only [push_cast, reduceIte, nA, nB, nC, reduceCtorEq, nD, nE, nF, nG, iA, iB, iC, iD, *])
    | (apply ER_guard; (case hb => (simp only [push_cast, reduceIte, nA, nB, nC, reduceCtorEq, nD, nE, nF, nG, iA, iB, iC, iD]; rfl)); all_goals ((intro hc; first | (exfalso; simp only [push_cast, reduceIte, nA, nB, nC, reduceCtorEq, nD, nE, nF, nG, iA, iB, iC, iD, *] at hc; done) | (exact absurd hc (by decide)) | (with_reducible (have hcc : true = true := hc); clear hcc hc) | (with_reducible (have hcc : false = false := hc); clear hcc hc) | ((try simp only [Bool.not_true, Bool.not_false] at hc); (first | (with_reducible (have hcc : true = true := hc); clear hcc hc) | (with_reducible (have hcc : false = false := hc); clear hcc hc) | (have hp := hc; (try simp only [decide_eq_true_eq, decide_eq_false_iff_not, bA, bB, bC, bD, bE, bF, bG, bH] at hp))))) <;> try simp only [push_cast, reduceIte, nA, nB, nC, reduceCtorEq, nD, nE, nF, nG, iA, iB, iC, iD, *]))
    | fail)
      exact ⟨(x', H'), hown', by (first | trivial | (simp only [push_cast, reduceIte, nA, nB, nC, reduceCtorEq, nD, nE, nF, nG, iA, iB, iC, iD, *]; done)), Heap.le_refl _⟩
    · rintro ⟨x, B⟩ hown
      simp only [List.take_length] at hown
      have hE37 := tE37
      have hS37 := tS29
      have hB37 := tB29
      have hZ37 := tZ29
      have hH0 : H0 = _ := hH0
      rcases OwnL.split hown with ⟨ad, rfl, e2, rfl⟩ | ⟨m2, cap2, rfl, rfl, hm2⟩
      case' inl => obtain rfl := List.map_eq_nil_iff.1 e2
      case' inr => (rw [hH0] at hm2; simp only [upd_none2, ne_eq] at hm2)
      all_goals
        subst hH0
        clear g1 g4 hown
        try clear e2
        try simp only [List.map_nil, List.nil_append] at hwi
        simp only [List.length_map]
        repeat' (first
    | refine AW_seq_kn fun K hK => ?_
    | refine AW_block ?_
    | (refine does_app1F rfl rfl rfl rfl OwnL.none' (by simp only [upd_none2]; assumption) hE37 hS37 hB37 hZ37 rfl (by decide) ?h63 ?hby ?_; (case h63 => (simp [maxLen]; done)); (case hby => (simp; done)); (try simp only [push_cast, reduceIte, nA, nB, nC, reduceCtorEq, nD, nE, nF, nG, iA, iB, iC, iD, *]))
    | (refine does_app1F rfl rfl rfl rfl (OwnL.at (rows := ql.map El.av) (by simp) (by simp only [upd_none2]; assumption)) (by simp only [upd_none2]; assumption) hE37 hS37 hB37 hZ37 rfl (by decide) ?h63 ?hby ?_; (case h63 => (simp [maxLen]; omega)); (case hby => (simp; omega)); (try simp only [push_cast, reduceIte, nA, nB, nC, reduceCtorEq, nD, nE, nF, nG, iA, iB, iC, iD, *]))
    | (refine does_call rfl rfl ?_; simp only [push_cast, reduceIte, nA, nB, nC, reduceCtorEq, nD, nE, nF, nG, iA, iB, iC, iD, *]; refine ACall.mono (hwi _) ?_; (rintro _ _ ⟨rfl, e2⟩; have e3 := e2.symm; clear e2; subst e3); (try simp only [push_cast, reduceIte, nA, nB, nC, reduceCtorEq, nD, nE, nF, nG, iA, iB, iC, iD, *]))
    | (refine does_call rfl rfl ?_; simp only [push_cast, reduceIte, nA, nB, nC, reduceCtorEq, nD, nE, nF, nG, iA, iB, iC, iD, *]; refine ACall.mono (rightElem_p _ _) ?_; (rintro _ _ ⟨rfl, e2⟩; have e3 := e2.symm; clear e2; subst e3); (try simp only [push_cast, reduceIte, nA, nB, nC, reduceCtorEq, nD, nE, nF, nG, iA, iB, iC, iD, *]))
    | (refine does_call rfl rfl ?_; simp only [push_cast, reduceIte, nA, nB, nC, reduceCtorEq, nD, nE, nF, nG, iA, iB, iC, iD, *]; refine ACall.mono (with_p ⟨_, _, _⟩ _ _ (by assumption) _) ?_; (rintro _ _ ⟨rfl, e2⟩; have e3 := e2.symm; clear e2; subst e3); (try simp only [push_cast, reduceIte, nA, nB, nC, reduceCtorEq, nD, nE, nF, nG, iA, iB, iC, iD, *]))
    | (refine does_call rfl rfl ?_; simp only [push_cast, reduceIte, nA, nB, nC, reduceCtorEq, nD, nE, nF, nG, iA, iB, iC, iD, *]; refine ACall.mono (right15_p ⟨_, _, _⟩ (by assumption) _) ?_; (rintro _ _ ⟨rfl, e2⟩; have e3 := e2.symm; clear e2; subst e3); (try simp only [push_cast, reduceIte, nA, nB, nC, reduceCtorEq, nD, nE, nF, nG, iA, iB, iC, iD, *]))
    | (refine does_call rfl rfl ?_; simp only [push_cast, reduceIte, nA, nB, nC, reduceCtorEq, nD, nE, nF, nG, iA, iB, iC, iD, *]; refine ACall.mono (closedR_p ⟨_, _, _, _⟩ (by assumption) _) ?_; (rintro _ _ ⟨rfl, e2⟩; have e3 := e2.symm; clear e2; subst e3); (try simp only [push_cast, reduceIte, nA, nB, nC, reduceCtorEq, nD, nE, nF, nG, iA, iB, iC, iD, *]))
    | ((first
      | refine AW_region E1 ?_ | refine AW_ret ?_ | refine AW_exit ?_ | refine AW_skip ?_ | unfold retQ); try simp only [push_cast, reduceIte, nA, nB, nC, reduceCtorEq, nD, nE, nF, nG, iA, iB, iC, iD, *])
    | (apply AW_cond; (case hc => (simp only [push_cast, reduceIte, nA, nB, nC, reduceCtorEq, nD, nE, nF, nG, iA, iB, iC, iD]; rfl)); all_goals (intro hc; first | (exfalso; simp only [push_cast, reduceIte, nA, nB, nC, reduceCtorEq, nD, nE, nF, nG, iA, iB, iC, iD, *] at hc; done) | (exact absurd hc (by decide)) | (with_reducible (have hcc : true = true := hc); clear hcc hc) | (with_reducible (have hcc : false = false := hc); clear hcc hc) | ((try simp only [Bool.not_true, Bool.not_false] at hc); (first | (with_reducible (have hcc : true = true := hc); clear hcc hc) | (with_reducible (have hcc : false = false := hc); clear hcc hc) | (have hp := hc; (try simp only [decide_eq_true_eq, decide_eq_false_iff_not, bA, bB, bC, bD, bE, bF, bG, bH] at hp))))))
    | (refine Kn.go hK ?_; clear hK K)
    | refine Kn.go (by assumption) ?_
    | (intro n hn; (try simp only [upd_none2, join_none_iff, ite_none, ne_eq] at hn); (try simp only [push_cast, reduceIte, nA, nB, nC, reduceCtorEq, nD, nE, nF, nG, iA, iB, iC, iD, *]))
    | (intro hc)
    | (apply ER_blk; (case hp => rfl); (case hb => (simp only [push_cast, reduceIte, nA, nB, nC, reduceCtorEq, nD, nE, nF, nG, iA, iB, iC, iD]; rfl)); (case hd => (simp only [push_cast, reduceIte, nA, nB, nC, reduceCtorEq, nD, nE, nF, nG, iA, iB, iC, iD]; done)); (case h => (intro hc; simp only [push_cast, reduceIte, nA, nB, nC, reduceCtorEq, nD, nE, nF, nG, iA, iB, iC, iD, *]; rfl)); simp only [push_cast, reduceIte, nA, nB, nC, reduceCtorEq, nD, nE, nF, nG, iA, iB, iC, iD, *])
    | (apply ER_guard; (case hb => (simp only [push_cast, reduceIte, nA, nB, nC, reduceCtorEq, nD, nE, nF, nG, iA, iB, iC, iD]; rfl)); all_goals ((intro hc; first | (exfalso; simp only [push_cast, reduceIte, nA, nB, nC, reduceCtorEq, nD, nE, nF, nG, iA, iB, iC, iD, *] at hc; done) | (exact absurd hc (by decide)) | (with_reducible (have hcc : true = true := hc); clear hcc hc) | (with_reducible (have hcc : false = false := hc); clear hcc hc) | ((try simp only [Bool.not_true, Bool.not_false] at hc); (first | (with_reducible (have hcc : true = true := hc); clear hcc hc) | (with_reducible (have hcc : false = false := hc); clear hcc hc) | (have hp := hc; (try simp only [decide_eq_true_eq, decide_eq_false_iff_not, bA, bB, bC, bD, bE, bF, bG, bH] at hp))))) <;> try simp only [push_cast, reduceIte, nA, nB, nC, reduceCtorEq, nD, nE, nF, nG, iA, iB, iC, iD, *]))
    | fail)
        all_goals exact ⟨_, _, Weak.less (by (simp only [push_cast, reduceIte, nA, nB, nC, reduceCtorEq, nD, nE, nF, nG, iA, iB, iC, iD, *])), rfl, rfl⟩
theorem rpush_p (g : Gt) (n : Int) (e : El) (hg : Wf g) (hs : g.qs.length ≤ 1000) : Pure Try.prog 13 [.g (Gt.av g), .c (.int .i64 n), .g (El.av e)] (.t [.g (Gt.av (pushS g n e)), .c (.int .i64 (pushE g n e))]) := by
  intro H
  obtain ⟨R, hR⟩ : ∃ R, R = AV.t [.g (Gt.av (pushS g n e)), .c (.int .i64 (pushE g n e))] := ⟨_, rfl⟩
  rw [← hR]
  have zero : ∀ (G : Heap) (er : Int), Heap.le H G → pushE g n e = er → er ≠ 0 → ∃ r2 H2, Weak (.t [.g [.c (.slice none 0 0), .c (.int .u64 0), .c (.int .u64 0)], .c (.int .i64 er)]) G r2 H2 ∧ r2 = R ∧ H2 = H := fun G er hle he h0 => by
    have e1 : pushS g n e = zGt := by unfold pushS; rw [if_neg (by rw [he]; exact h0)]
    rw [hR, e1, he]
    refine ⟨.t [.g [.l 4 [], .c (.int .u64 0), .c (.int .u64 0)], .c (.int .i64 er)], H, Weak.imp ?_ hle, rfl, rfl⟩
    (intros; repeat (first | assumption | exact Imp.refl (Mem.le.refl _) _ | exact Imp.refl (by assumption) _ | exact Imp.nil_l _ | refine Imp.t ?_ | refine Imp.g ?_ | exact Imps.nil | refine Imps.cons ?_ (by intro hh; first | rfl | (cases hh; done)) ?_))
  replace hR := Lib.hid hR
  obtain ⟨l, nu, dn⟩ := g
  simp only at hs
  cases hok : gOk ⟨l, nu, dn⟩
  · have hE : pushE ⟨l, nu, dn⟩ n e = 250 := by simp [pushE, hok]
    replace hE := Lib.hid hE
    refine ACall_of' Try.func13 rfl (Ent_of Try.func13 (by kernel_rfl) rfl) (by simp [Try.ntmps13]) ?_; simp only [Try.ntmps13, Try.results13]
    simp only [Gt.av]
    repeat' (first
    | refine AW_seq_kn fun K hK => ?_
    | refine AW_block ?_
    | (refine does_call rfl rfl ?_; simp only [push_cast, reduceIte, nA, nB, nC, reduceCtorEq, nD, nE, nF, nG, iA, iB, iC, iD, *]; refine ACall.mono (rightElem_p _ _) ?_; (rintro _ _ ⟨rfl, e2⟩; have e3 := e2.symm; clear e2; subst e3); (try simp only [push_cast, reduceIte, nA, nB, nC, reduceCtorEq, nD, nE, nF, nG, iA, iB, iC, iD, *]))
    | (refine does_call rfl rfl ?_; simp only [push_cast, reduceIte, nA, nB, nC, reduceCtorEq, nD, nE, nF, nG, iA, iB, iC, iD, *]; refine ACall.mono (with_p ⟨_, _, _⟩ _ _ (by assumption) _) ?_; (rintro _ _ ⟨rfl, e2⟩; have e3 := e2.symm; clear e2; subst e3); (try simp only [push_cast, reduceIte, nA, nB, nC, reduceCtorEq, nD, nE, nF, nG, iA, iB, iC, iD, *]))
    | (refine does_call rfl rfl ?_; simp only [push_cast, reduceIte, nA, nB, nC, reduceCtorEq, nD, nE, nF, nG, iA, iB, iC, iD, *]; refine ACall.mono (right15_p ⟨_, _, _⟩ (by assumption) _) ?_; (rintro _ _ ⟨rfl, e2⟩; have e3 := e2.symm; clear e2; subst e3); (try simp only [push_cast, reduceIte, nA, nB, nC, reduceCtorEq, nD, nE, nF, nG, iA, iB, iC, iD, *]))
    | (refine does_call rfl rfl ?_; simp only [push_cast, reduceIte, nA, nB, nC, reduceCtorEq, nD, nE, nF, nG, iA, iB, iC, iD, *]; refine ACall.mono (closedR_p ⟨_, _, _, _⟩ (by assumption) _) ?_; (rintro _ _ ⟨rfl, e2⟩; have e3 := e2.symm; clear e2; subst e3); (try simp only [push_cast, reduceIte, nA, nB, nC, reduceCtorEq, nD, nE, nF, nG, iA, iB, iC, iD, *]))
    | ((first
      | refine AW_region E1 ?_ | refine AW_ret ?_ | refine AW_exit ?_ | refine AW_skip ?_ | unfold retQ); try simp only [push_cast, reduceIte, nA, nB, nC, reduceCtorEq, nD, nE, nF, nG, iA, iB, iC, iD, *])
    | (apply AW_cond; (case hc => (simp only [push_cast, reduceIte, nA, nB, nC, reduceCtorEq, nD, nE, nF, nG, iA, iB, iC, iD]; rfl)); all_goals (intro hc; first | (exfalso; simp only [push_cast, reduceIte, nA, nB, nC, reduceCtorEq, nD, nE, nF, nG, iA, iB, iC, iD, *] at hc; done) | (exact absurd hc (by decide)) | (with_reducible (have hcc : true = true := hc); clear hcc hc) | (with_reducible (have hcc : false = false := hc); clear hcc hc) | ((try simp only [Bool.not_true, Bool.not_false] at hc); (first | (with_reducible (have hcc : true = true := hc); clear hcc hc) | (with_reducible (have hcc : false = false := hc); clear hcc hc) | (have hp := hc; (try simp only [decide_eq_true_eq, decide_eq_false_iff_not, bA, bB, bC, bD, bE, bF, bG, bH] at hp))))))
    | (refine Kn.go hK ?_; clear hK K)
    | refine Kn.go (by assumption) ?_
    | (intro n hn; (try simp only [upd_none2, join_none_iff, ite_none, ne_eq] at hn); (try simp only [push_cast, reduceIte, nA, nB, nC, reduceCtorEq, nD, nE, nF, nG, iA, iB, iC, iD, *]))
    | (intro hc)
    | (apply ER_blk; (case hp => rfl); (case hb => (simp only [push_cast, reduceIte, nA, nB, nC, reduceCtorEq, nD, nE, nF, nG, iA, iB, iC, iD]; rfl)); (case hd => (simp only [push_cast, reduceIte, nA, nB, nC, reduceCtorEq, nD, nE, nF, nG, iA, iB, iC, iD]; done)); (case h => (intro hc; simp only [push_cast, reduceIte, nA, nB, nC, reduceCtorEq, nD, nE, nF, nG, iA, iB, iC, iD, *]; rfl)); simp only [push_cast, reduceIte, nA, nB, nC, reduceCtorEq, nD, nE, nF, nG, iA, iB, iC, iD, *])
    | (apply ER_guard; (case hb => (simp only [push_cast, reduceIte, nA, nB, nC, reduceCtorEq, nD, nE, nF, nG, iA, iB, iC, iD]; rfl)); all_goals ((intro hc; first | (exfalso; simp only [push_cast, reduceIte, nA, nB, nC, reduceCtorEq, nD, nE, nF, nG, iA, iB, iC, iD, *] at hc; done) | (exact absurd hc (by decide)) | (with_reducible (have hcc : true = true := hc); clear hcc hc) | (with_reducible (have hcc : false = false := hc); clear hcc hc) | ((try simp only [Bool.not_true, Bool.not_false] at hc); (first | (with_reducible (have hcc : true = true := hc); clear hcc hc) | (with_reducible (have hcc : false = false := hc); clear hcc hc) | (have hp := hc; (try simp only [decide_eq_true_eq, decide_eq_false_iff_not, bA, bB, bC, bD, bE, bF, bG, bH] at hp))))) <;> try simp only [push_cast, reduceIte, nA, nB, nC, reduceCtorEq, nD, nE, nF, nG, iA, iB, iC, iD, *]))
    | fail)
    exact zero _ _ (by (simp only [push_cast, reduceIte, nA, nB, nC, reduceCtorEq, nD, nE, nF, nG, iA, iB, iC, iD, *])) hE (by omega)
  by_cases c0 : n < 0
  · have hE : pushE ⟨l, nu, dn⟩ n e = 2 := by simp [pushE, hok, c0]
    replace hE := Lib.hid hE
    refine ACall_of' Try.func13 rfl (Ent_of Try.func13 (by kernel_rfl) rfl) (by simp [Try.ntmps13]) ?_; simp only [Try.ntmps13, Try.results13]
    simp only [Gt.av]
    repeat' (first
    | refine AW_seq_kn fun K hK => ?_
    | refine AW_block ?_
    | (refine does_call rfl rfl ?_; simp only [push_cast, reduceIte, nA, nB, nC, reduceCtorEq, nD, nE, nF, nG, iA, iB, iC, iD, *]; refine ACall.mono (rightElem_p _ _) ?_; (rintro _ _ ⟨rfl, e2⟩; have e3 := e2.symm; clear e2; subst e3); (try simp only [push_cast, reduceIte, nA, nB, nC, reduceCtorEq, nD, nE, nF, nG, iA, iB, iC, iD, *]))
    | (refine does_call rfl rfl ?_; simp only [push_cast, reduceIte, nA, nB, nC, reduceCtorEq, nD, nE, nF, nG, iA, iB, iC, iD, *]; refine ACall.mono (with_p ⟨_, _, _⟩ _ _ (by assumption) _) ?_; (rintro _ _ ⟨rfl, e2⟩; have e3 := e2.symm; clear e2; subst e3); (try simp only [push_cast, reduceIte, nA, nB, nC, reduceCtorEq, nD, nE, nF, nG, iA, iB, iC, iD, *]))
    | (refine does_call rfl rfl ?_; simp only [push_cast, reduceIte, nA, nB, nC, reduceCtorEq, nD, nE, nF, nG, iA, iB, iC, iD, *]; refine ACall.mono (right15_p ⟨_, _, _⟩ (by assumption) _) ?_; (rintro _ _ ⟨rfl, e2⟩; have e3 := e2.symm; clear e2; subst e3); (try simp only [push_cast, reduceIte, nA, nB, nC, reduceCtorEq, nD, nE, nF, nG, iA, iB, iC, iD, *]))
    | (refine does_call rfl rfl ?_; simp only [push_cast, reduceIte, nA, nB, nC, reduceCtorEq, nD, nE, nF, nG, iA, iB, iC, iD, *]; refine ACall.mono (closedR_p ⟨_, _, _, _⟩ (by assumption) _) ?_; (rintro _ _ ⟨rfl, e2⟩; have e3 := e2.symm; clear e2; subst e3); (try simp only [push_cast, reduceIte, nA, nB, nC, reduceCtorEq, nD, nE, nF, nG, iA, iB, iC, iD, *]))
    | ((first
      | refine AW_region E1 ?_ | refine AW_ret ?_ | refine AW_exit ?_ | refine AW_skip ?_ | unfold retQ); try simp only [push_cast, reduceIte, nA, nB, nC, reduceCtorEq, nD, nE, nF, nG, iA, iB, iC, iD, *])
    | (apply AW_cond; (case hc => (simp only [push_cast, reduceIte, nA, nB, nC, reduceCtorEq, nD, nE, nF, nG, iA, iB, iC, iD]; rfl)); all_goals (intro hc; first | (exfalso; simp only [push_cast, reduceIte, nA, nB, nC, reduceCtorEq, nD, nE, nF, nG, iA, iB, iC, iD, *] at hc; done) | (exact absurd hc (by decide)) | (with_reducible (have hcc : true = true := hc); clear hcc hc) | (with_reducible (have hcc : false = false := hc); clear hcc hc) | ((try simp only [Bool.not_true, Bool.not_false] at hc); (first | (with_reducible (have hcc : true = true := hc); clear hcc hc) | (with_reducible (have hcc : false = false := hc); clear hcc hc) | (have hp := hc; (try simp only [decide_eq_true_eq, decide_eq_false_iff_not, bA, bB, bC, bD, bE, bF, bG, bH] at hp))))))
    | (refine Kn.go hK ?_; clear hK K)
    | refine Kn.go (by assumption) ?_
    | (intro n hn; (try simp only [upd_none2, join_none_iff, ite_none, ne_eq] at hn); (try simp only [push_cast, reduceIte, nA, nB, nC, reduceCtorEq, nD, nE, nF, nG, iA, iB, iC, iD, *]))
    | (intro hc)
    | (apply ER_blk; (case hp => rfl); (case hb => (simp only [push_cast, reduceIte, nA, nB, nC, reduceCtorEq, nD, nE, nF, nG, iA, iB, iC, iD]; rfl)); (case hd => (simp only [push_cast, reduceIte, nA, nB, nC, reduceCtorEq, nD, nE, nF, nG, iA, iB, iC, iD]; done)); (case h => (intro hc; simp only [push_cast, reduceIte, nA, nB, nC, reduceCtorEq, nD, nE, nF, nG, iA, iB, iC, iD, *]; rfl)); simp only [push_cast, reduceIte, nA, nB, nC, reduceCtorEq, nD, nE, nF, nG, iA, iB, iC, iD, *])
    | (apply ER_guard; (case hb => (simp only [push_cast, reduceIte, nA, nB, nC, reduceCtorEq, nD, nE, nF, nG, iA, iB, iC, iD]; rfl)); all_goals ((intro hc; first | (exfalso; simp only [push_cast, reduceIte, nA, nB, nC, reduceCtorEq, nD, nE, nF, nG, iA, iB, iC, iD, *] at hc; done) | (exact absurd hc (by decide)) | (with_reducible (have hcc : true = true := hc); clear hcc hc) | (with_reducible (have hcc : false = false := hc); clear hcc hc) | ((try simp only [Bool.not_true, Bool.not_false] at hc); (first | (with_reducible (have hcc : true = true := hc); clear hcc hc) | (with_reducible (have hcc : false = false := hc); clear hcc hc) | (have hp := hc; (try simp only [decide_eq_true_eq, decide_eq_false_iff_not, bA, bB, bC, bD, bE, bF, bG, bH] at hp))))) <;> try simp only [push_cast, reduceIte, nA, nB, nC, reduceCtorEq, nD, nE, nF, nG, iA, iB, iC, iD, *]))
    | fail)
    exact zero _ _ (by (simp only [push_cast, reduceIte, nA, nB, nC, reduceCtorEq, nD, nE, nF, nG, iA, iB, iC, iD, *])) hE (by omega)
  obtain ⟨k, rfl⟩ : ∃ k : Nat, n = (k : Int) := ⟨n.toNat, by omega⟩
  cases hk : l[k]? with
  | none =>
    have hE : pushE ⟨l, nu, dn⟩ (k : Int) e = 2 := by simp [pushE, hok, hk]
    replace hE := Lib.hid hE
    have hge : (l.length : Int) ≤ (k : Int) := by have := List.getElem?_eq_none_iff.1 hk; omega
    clear hk
    refine ACall_of' Try.func13 rfl (Ent_of Try.func13 (by kernel_rfl) rfl) (by simp [Try.ntmps13]) ?_; simp only [Try.ntmps13, Try.results13]
    simp only [Gt.av]
    repeat' (first
    | refine AW_seq_kn fun K hK => ?_
    | refine AW_block ?_
    | (refine does_call rfl rfl ?_; simp only [push_cast, reduceIte, nA, nB, nC, reduceCtorEq, nD, nE, nF, nG, iA, iB, iC, iD, *]; refine ACall.mono (rightElem_p _ _) ?_; (rintro _ _ ⟨rfl, e2⟩; have e3 := e2.symm; clear e2; subst e3); (try simp only [push_cast, reduceIte, nA, nB, nC, reduceCtorEq, nD, nE, nF, nG, iA, iB, iC, iD, *]))
    | (refine does_call rfl rfl ?_; simp only [push_cast, reduceIte, nA, nB, nC, reduceCtorEq, nD, nE, nF, nG, iA, iB, iC, iD, *]; refine ACall.mono (with_p ⟨_, _, _⟩ _ _ (by assumption) _) ?_; (rintro _ _ ⟨rfl, e2⟩; have e3 := e2.symm; clear e2; subst e3); (try simp only [push_cast, reduceIte, nA, nB, nC, reduceCtorEq, nD, nE, nF, nG, iA, iB, iC, iD, *]))
    | (refine does_call rfl rfl ?_; simp only [push_cast, reduceIte, nA, nB, nC, reduceCtorEq, nD, nE, nF, nG, iA, iB, iC, iD, *]; refine ACall.mono (right15_p ⟨_, _, _⟩ (by assumption) _) ?_; (rintro _ _ ⟨rfl, e2⟩; have e3 := e2.symm; clear e2; subst e3); (try simp only [push_cast, reduceIte, nA, nB, nC, reduceCtorEq, nD, nE, nF, nG, iA, iB, iC, iD, *]))
    | (refine does_call rfl rfl ?_; simp only [push_cast, reduceIte, nA, nB, nC, reduceCtorEq, nD, nE, nF, nG, iA, iB, iC, iD, *]; refine ACall.mono (closedR_p ⟨_, _, _, _⟩ (by assumption) _) ?_; (rintro _ _ ⟨rfl, e2⟩; have e3 := e2.symm; clear e2; subst e3); (try simp only [push_cast, reduceIte, nA, nB, nC, reduceCtorEq, nD, nE, nF, nG, iA, iB, iC, iD, *]))
    | ((first
      | refine AW_region E1 ?_ | refine AW_ret ?_ | refine AW_exit ?_ | refine AW_skip ?_ | unfold retQ); try simp only [push_cast, reduceIte, nA, nB, nC, reduceCtorEq, nD, nE, nF, nG, iA, iB, iC, iD, *])
    | (apply AW_cond; (case hc => (simp only [push_cast, reduceIte, nA, nB, nC, reduceCtorEq, nD, nE, nF, nG, iA, iB, iC, iD]; rfl)); all_goals (intro hc; first | (exfalso; simp only [push_cast, reduceIte, nA, nB, nC, reduceCtorEq, nD, nE, nF, nG, iA, iB, iC, iD, *] at hc; done) | (exact absurd hc (by decide)) | (with_reducible (have hcc : true = true := hc); clear hcc hc) | (with_reducible (have hcc : false = false := hc); clear hcc hc) | ((try simp only [Bool.not_true, Bool.not_false] at hc); (first | (with_reducible (have hcc : true = true := hc); clear hcc hc) | (with_reducible (have hcc : false = false := hc); clear hcc hc) | (have hp := hc; (try simp only [decide_eq_true_eq, decide_eq_false_iff_not, bA, bB, bC, bD, bE, bF, bG, bH] at hp))))))
    | (refine Kn.go hK ?_; clear hK K)
    | refine Kn.go (by assumption) ?_
    | (intro n hn; (try simp only [upd_none2, join_none_iff, ite_none, ne_eq] at hn); (try simp only [push_cast, reduceIte, nA, nB, nC, reduceCtorEq, nD, nE, nF, nG, iA, iB, iC, iD, *]))
    | (intro hc)
    | (apply ER_blk; (case hp => rfl); (case hb => (simp only [push_cast, reduceIte, nA, nB, nC, reduceCtorEq, nD, nE, nF, nG, iA, iB, iC, iD]; rfl)); (case hd => (simp only [push_cast, reduceIte, nA, nB, nC, reduceCtorEq, nD, nE, nF, nG, iA, iB, iC, iD]; done)); (case h => (intro hc; simp only [push_cast, reduceIte, nA, nB, nC, reduceCtorEq, nD, nE, nF, nG, iA, iB, iC, iD, *]; rfl)); simp only [push_cast, reduceIte, nA, nB, nC, reduceCtorEq, nD, nE, nF, nG, iA, iB, iC, iD, *])
    | (apply ER_guard; (case hb => (simp only [push_cast, reduceIte, nA, nB, nC, reduceCtorEq, nD, nE, nF, nG, iA, iB, iC, iD]; rfl)); all_goals ((intro hc; first | (exfalso; simp only [push_cast, reduceIte, nA, nB, nC, reduceCtorEq, nD, nE, nF, nG, iA, iB, iC, iD, *] at hc; done) | (exact absurd hc (by decide)) | (with_reducible (have hcc : true = true := hc); clear hcc hc) | (with_reducible (have hcc : false = false := hc); clear hcc hc) | ((try simp only [Bool.not_true, Bool.not_false] at hc); (first | (with_reducible (have hcc : true = true := hc); clear hcc hc) | (with_reducible (have hcc : false = false := hc); clear hcc hc) | (have hp := hc; (try simp only [decide_eq_true_eq, decide_eq_false_iff_not, bA, bB, bC, bD, bE, bF, bG, bH] at hp))))) <;> try simp only [push_cast, reduceIte, nA, nB, nC, reduceCtorEq, nD, nE, nF, nG, iA, iB, iC, iD, *]))
    | fail)
    exact zero _ _ (by (simp only [push_cast, reduceIte, nA, nB, nC, reduceCtorEq, nD, nE, nF, nG, iA, iB, iC, iD, *])) hE (by omega)
  | some q =>
    have hkl : ¬ (l.length : Int) ≤ (k : Int) := by have := (List.getElem?_eq_some_iff.1 hk).1; omega
    have hklt : (k : Int) < (l.length : Int) := by omega
    have hr := gOk_rows hok hk
    have h4 := rightQ_len hr
    have hgl := gOk_len hok
    obtain ⟨ql, qla, qhe, qen⟩ := q
    simp only at h4
    have h4m : ql.length ≤ maxLen := by unfold maxLen; omega
    cases hel : elOk e
    · have hE : pushE ⟨l, nu, dn⟩ (k : Int) e = 151 := by simp [pushE, hok, hk, hel]
      replace hE := Lib.hid hE
      refine ACall_of' Try.func13 rfl (Ent_of Try.func13 (by kernel_rfl) rfl) (by simp [Try.ntmps13]) ?_; simp only [Try.ntmps13, Try.results13]
      simp only [Gt.av]
      repeat' (first
    | refine AW_seq_kn fun K hK => ?_
    | refine AW_block ?_
    | (refine does_call rfl rfl ?_; simp only [push_cast, reduceIte, nA, nB, nC, reduceCtorEq, nD, nE, nF, nG, iA, iB, iC, iD, *]; refine ACall.mono (rightElem_p _ _) ?_; (rintro _ _ ⟨rfl, e2⟩; have e3 := e2.symm; clear e2; subst e3); (try simp only [push_cast, reduceIte, nA, nB, nC, reduceCtorEq, nD, nE, nF, nG, iA, iB, iC, iD, *]))
    | (refine does_call rfl rfl ?_; simp only [push_cast, reduceIte, nA, nB, nC, reduceCtorEq, nD, nE, nF, nG, iA, iB, iC, iD, *]; refine ACall.mono (with_p ⟨_, _, _⟩ _ _ (by assumption) _) ?_; (rintro _ _ ⟨rfl, e2⟩; have e3 := e2.symm; clear e2; subst e3); (try simp only [push_cast, reduceIte, nA, nB, nC, reduceCtorEq, nD, nE, nF, nG, iA, iB, iC, iD, *]))
    | (refine does_call rfl rfl ?_; simp only [push_cast, reduceIte, nA, nB, nC, reduceCtorEq, nD, nE, nF, nG, iA, iB, iC, iD, *]; refine ACall.mono (right15_p ⟨_, _, _⟩ (by assumption) _) ?_; (rintro _ _ ⟨rfl, e2⟩; have e3 := e2.symm; clear e2; subst e3); (try simp only [push_cast, reduceIte, nA, nB, nC, reduceCtorEq, nD, nE, nF, nG, iA, iB, iC, iD, *]))
    | (refine does_call rfl rfl ?_; simp only [push_cast, reduceIte, nA, nB, nC, reduceCtorEq, nD, nE, nF, nG, iA, iB, iC, iD, *]; refine ACall.mono (closedR_p ⟨_, _, _, _⟩ (by assumption) _) ?_; (rintro _ _ ⟨rfl, e2⟩; have e3 := e2.symm; clear e2; subst e3); (try simp only [push_cast, reduceIte, nA, nB, nC, reduceCtorEq, nD, nE, nF, nG, iA, iB, iC, iD, *]))
    | ((first
      | refine AW_region E1 ?_ | refine AW_ret ?_ | refine AW_exit ?_ | refine AW_skip ?_ | unfold retQ); try simp only [push_cast, reduceIte, nA, nB, nC, reduceCtorEq, nD, nE, nF, nG, iA, iB, iC, iD, *])
    | (apply AW_cond; (case hc => (simp only [push_cast, reduceIte, nA, nB, nC, reduceCtorEq, nD, nE, nF, nG, iA, iB, iC, iD]; rfl)); all_goals (intro hc; first | (exfalso; simp only [push_cast, reduceIte, nA, nB, nC, reduceCtorEq, nD, nE, nF, nG, iA, iB, iC, iD, *] at hc; done) | (exact absurd hc (by decide)) | (with_reducible (have hcc : true = true := hc); clear hcc hc) | (with_reducible (have hcc : false = false := hc); clear hcc hc) | ((try simp only [Bool.not_true, Bool.not_false] at hc); (first | (with_reducible (have hcc : true = true := hc); clear hcc hc) | (with_reducible (have hcc : false = false := hc); clear hcc hc) | (have hp := hc; (try simp only [decide_eq_true_eq, decide_eq_false_iff_not, bA, bB, bC, bD, bE, bF, bG, bH] at hp))))))
    | (refine Kn.go hK ?_; clear hK K)
    | refine Kn.go (by assumption) ?_
    | (intro n hn; (try simp only [upd_none2, join_none_iff, ite_none, ne_eq] at hn); (try simp only [push_cast, reduceIte, nA, nB, nC, reduceCtorEq, nD, nE, nF, nG, iA, iB, iC, iD, *]))
    | (intro hc)
    | (apply ER_blk; (case hp => rfl); (case hb => (simp only [push_cast, reduceIte, nA, nB, nC, reduceCtorEq, nD, nE, nF, nG, iA, iB, iC, iD]; rfl)); (case hd => (simp only [push_cast, reduceIte, nA, nB, nC, reduceCtorEq, nD, nE, nF, nG, iA, iB, iC, iD]; done)); (case h => (intro hc; simp only [push_cast, reduceIte, nA, nB, nC, reduceCtorEq, nD, nE, nF, nG, iA, iB, iC, iD, *]; rfl)); simp only [push_cast, reduceIte, nA, nB, nC, reduceCtorEq, nD, nE, nF, nG, iA, iB, iC, iD, *])
    | (apply ER_guard; (case hb => (simp only [push_cast, reduceIte, nA, nB, nC, reduceCtorEq, nD, nE, nF, nG, iA, iB, iC, iD]; rfl)); all_goals ((intro hc; first | (exfalso; simp only [push_cast, reduceIte, nA, nB, nC, reduceCtorEq, nD, nE, nF, nG, iA, iB, iC, iD, *] at hc; done) | (exact absurd hc (by decide)) | (with_reducible (have hcc : true = true := hc); clear hcc hc) | (with_reducible (have hcc : false = false := hc); clear hcc hc) | ((try simp only [Bool.not_true, Bool.not_false] at hc); (first | (with_reducible (have hcc : true = true := hc); clear hcc hc) | (with_reducible (have hcc : false = false := hc); clear hcc hc) | (have hp := hc; (try simp only [decide_eq_true_eq, decide_eq_false_iff_not, bA, bB, bC, bD, bE, bF, bG, bH] at hp))))) <;> try simp only [push_cast, reduceIte, nA, nB, nC, reduceCtorEq, nD, nE, nF, nG, iA, iB, iC, iD, *]))
    | fail)
      exact zero _ _ (by (simp only [push_cast, reduceIte, nA, nB, nC, reduceCtorEq, nD, nE, nF, nG, iA, iB, iC, iD, *])) hE (by omega)
    have hll : lateS ⟨ql, qla, qhe, qen⟩ e = (closedS ⟨ql, qla, qhe, qen⟩ || (decide (e.kd = 2) && decide (e.n ≤ qla))) := rfl
    cases hlate : lateS ⟨ql, qla, qhe, qen⟩ e
    rotate_left
    · have hE : pushE ⟨l, nu, dn⟩ (k : Int) e = 2 := by simp [pushE, hok, hk, hel, hlate]
      replace hE := Lib.hid hE
      rw [hlate] at hll
      clear hlate
      cases hcl : closedS ⟨ql, qla, qhe, qen⟩
      · rw [hcl, Bool.false_or] at hll
        have hk2 : e.kd = 2 := by simp at hll; exact hll.1
        have hk3 : e.n ≤ qla := by simp at hll; exact hll.2
        have hkT : (e.kd = 2) = True := by simp [hk2]
        clear hll hk2
        refine ACall_of' Try.func13 rfl (Ent_of Try.func13 (by kernel_rfl) rfl) (by simp [Try.ntmps13]) ?_; simp only [Try.ntmps13, Try.results13]
        simp only [Gt.av]
        repeat' (first
    | refine AW_seq_kn fun K hK => ?_
    | refine AW_block ?_
    | (refine does_call rfl rfl ?_; simp only [push_cast, reduceIte, nA, nB, nC, reduceCtorEq, nD, nE, nF, nG, iA, iB, iC, iD, *]; refine ACall.mono (rightElem_p _ _) ?_; (rintro _ _ ⟨rfl, e2⟩; have e3 := e2.symm; clear e2; subst e3); (try simp only [push_cast, reduceIte, nA, nB, nC, reduceCtorEq, nD, nE, nF, nG, iA, iB, iC, iD, *]))
    | (refine does_call rfl rfl ?_; simp only [push_cast, reduceIte, nA, nB, nC, reduceCtorEq, nD, nE, nF, nG, iA, iB, iC, iD, *]; refine ACall.mono (with_p ⟨_, _, _⟩ _ _ (by assumption) _) ?_; (rintro _ _ ⟨rfl, e2⟩; have e3 := e2.symm; clear e2; subst e3); (try simp only [push_cast, reduceIte, nA, nB, nC, reduceCtorEq, nD, nE, nF, nG, iA, iB, iC, iD, *]))
    | (refine does_call rfl rfl ?_; simp only [push_cast, reduceIte, nA, nB, nC, reduceCtorEq, nD, nE, nF, nG, iA, iB, iC, iD, *]; refine ACall.mono (right15_p ⟨_, _, _⟩ (by assumption) _) ?_; (rintro _ _ ⟨rfl, e2⟩; have e3 := e2.symm; clear e2; subst e3); (try simp only [push_cast, reduceIte, nA, nB, nC, reduceCtorEq, nD, nE, nF, nG, iA, iB, iC, iD, *]))
    | (refine does_call rfl rfl ?_; simp only [push_cast, reduceIte, nA, nB, nC, reduceCtorEq, nD, nE, nF, nG, iA, iB, iC, iD, *]; refine ACall.mono (closedR_p ⟨_, _, _, _⟩ (by assumption) _) ?_; (rintro _ _ ⟨rfl, e2⟩; have e3 := e2.symm; clear e2; subst e3); (try simp only [push_cast, reduceIte, nA, nB, nC, reduceCtorEq, nD, nE, nF, nG, iA, iB, iC, iD, *]))
    | ((first
      | refine AW_region E1 ?_ | refine AW_ret ?_ | refine AW_exit ?_ | refine AW_skip ?_ | unfold retQ); try simp only [push_cast, reduceIte, nA, nB, nC, reduceCtorEq, nD, nE, nF, nG, iA, iB, iC, iD, *])
    | (apply AW_cond; (case hc => (simp only [push_cast, reduceIte, nA, nB, nC, reduceCtorEq, nD, nE, nF, nG, iA, iB, iC, iD]; rfl)); all_goals (intro hc; first | (exfalso; simp only [push_cast, reduceIte, nA, nB, nC, reduceCtorEq, nD, nE, nF, nG, iA, iB, iC, iD, *] at hc; done) | (exact absurd hc (by decide)) | (with_reducible (have hcc : true = true := hc); clear hcc hc) | (with_reducible (have hcc : false = false := hc); clear hcc hc) | ((try simp only [Bool.not_true, Bool.not_false] at hc); (first | (with_reducible (have hcc : true = true := hc); clear hcc hc) | (with_reducible (have hcc : false = false := hc); clear hcc hc) | (have hp := hc; (try simp only [decide_eq_true_eq, decide_eq_false_iff_not, bA, bB, bC, bD, bE, bF, bG, bH] at hp))))))
    | (refine Kn.go hK ?_; clear hK K)
    | refine Kn.go (by assumption) ?_
    | (intro n hn; (try simp only [upd_none2, join_none_iff, ite_none, ne_eq] at hn); (try simp only [push_cast, reduceIte, nA, nB, nC, reduceCtorEq, nD, nE, nF, nG, iA, iB, iC, iD, *]))
    | (intro hc)
    | (apply ER_blk; (case hp => rfl); (case hb => (simp only [push_cast, reduceIte, nA, nB, nC, reduceCtorEq, nD, nE, nF, nG, iA, iB, iC, iD]; rfl)); (case hd => (simp only [push_cast, reduceIte, nA, nB, nC, reduceCtorEq, nD, nE, nF, nG, iA, iB, iC, iD]; done)); (case h => (intro hc; simp only [push_cast, reduceIte, nA, nB, nC, reduceCtorEq, nD, nE, nF, nG, iA, iB, iC, iD, *]; rfl)); simp only [push_cast, reduceIte, nA, nB, nC, reduceCtorEq, nD, nE, nF, nG, iA, iB, iC, iD, *])
    | (apply ER_guard; (case hb => (simp only [push_cast, reduceIte, nA, nB, nC, reduceCtorEq, nD, nE, nF, nG, iA, iB, iC, iD]; rfl)); all_goals ((intro hc; first | (exfalso; simp only [push_cast, reduceIte, nA, nB, nC, reduceCtorEq, nD, nE, nF, nG, iA, iB, iC, iD, *] at hc; done) | (exact absurd hc (by decide)) | (with_reducible (have hcc : true = true := hc); clear hcc hc) | (with_reducible (have hcc : false = false := hc); clear hcc hc) | ((try simp only [Bool.not_true, Bool.not_false] at hc); (first | (with_reducible (have hcc : true = true := hc); clear hcc hc) | (with_reducible (have hcc : false = false := hc); clear hcc hc) | (have hp := hc; (try simp only [decide_eq_true_eq, decide_eq_false_iff_not, bA, bB, bC, bD, bE, bF, bG, bH] at hp))))) <;> try simp only [push_cast, reduceIte, nA, nB, nC, reduceCtorEq, nD, nE, nF, nG, iA, iB, iC, iD, *]))
    | fail)
        all_goals exact zero _ _ (by (simp only [push_cast, reduceIte, nA, nB, nC, reduceCtorEq, nD, nE, nF, nG, iA, iB, iC, iD, *])) hE (by omega)
      · clear hll
        refine ACall_of' Try.func13 rfl (Ent_of Try.func13 (by kernel_rfl) rfl) (by simp [Try.ntmps13]) ?_; simp only [Try.ntmps13, Try.results13]
        simp only [Gt.av]
        repeat' (first
    | refine AW_seq_kn fun K hK => ?_
    | refine AW_block ?_
    | (refine does_call rfl rfl ?_; simp only [push_cast, reduceIte, nA, nB, nC, reduceCtorEq, nD, nE, nF, nG, iA, iB, iC, iD, *]; refine ACall.mono (rightElem_p _ _) ?_; (rintro _ _ ⟨rfl, e2⟩; have e3 := e2.symm; clear e2; subst e3); (try simp only [push_cast, reduceIte, nA, nB, nC, reduceCtorEq, nD, nE, nF, nG, iA, iB, iC, iD, *]))
    | (refine does_call rfl rfl ?_; simp only [push_cast, reduceIte, nA, nB, nC, reduceCtorEq, nD, nE, nF, nG, iA, iB, iC, iD, *]; refine ACall.mono (with_p ⟨_, _, _⟩ _ _ (by assumption) _) ?_; (rintro _ _ ⟨rfl, e2⟩; have e3 := e2.symm; clear e2; subst e3); (try simp only [push_cast, reduceIte, nA, nB, nC, reduceCtorEq, nD, nE, nF, nG, iA, iB, iC, iD, *]))
    | (refine does_call rfl rfl ?_; simp only [push_cast, reduceIte, nA, nB, nC, reduceCtorEq, nD, nE, nF, nG, iA, iB, iC, iD, *]; refine ACall.mono (right15_p ⟨_, _, _⟩ (by assumption) _) ?_; (rintro _ _ ⟨rfl, e2⟩; have e3 := e2.symm; clear e2; subst e3); (try simp only [push_cast, reduceIte, nA, nB, nC, reduceCtorEq, nD, nE, nF, nG, iA, iB, iC, iD, *]))
    | (refine does_call rfl rfl ?_; simp only [push_cast, reduceIte, nA, nB, nC, reduceCtorEq, nD, nE, nF, nG, iA, iB, iC, iD, *]; refine ACall.mono (closedR_p ⟨_, _, _, _⟩ (by assumption) _) ?_; (rintro _ _ ⟨rfl, e2⟩; have e3 := e2.symm; clear e2; subst e3); (try simp only [push_cast, reduceIte, nA, nB, nC, reduceCtorEq, nD, nE, nF, nG, iA, iB, iC, iD, *]))
    | ((first
      | refine AW_region E1 ?_ | refine AW_ret ?_ | refine AW_exit ?_ | refine AW_skip ?_ | unfold retQ); try simp only [push_cast, reduceIte, nA, nB, nC, reduceCtorEq, nD, nE, nF, nG, iA, iB, iC, iD, *])
    | (apply AW_cond; (case hc => (simp only [push_cast, reduceIte, nA, nB, nC, reduceCtorEq, nD, nE, nF, nG, iA, iB, iC, iD]; rfl)); all_goals (intro hc; first | (exfalso; simp only [push_cast, reduceIte, nA, nB, nC, reduceCtorEq, nD, nE, nF, nG, iA, iB, iC, iD, *] at hc; done) | (exact absurd hc (by decide)) | (with_reducible (have hcc : true = true := hc); clear hcc hc) | (with_reducible (have hcc : false = false := hc); clear hcc hc) | ((try simp only [Bool.not_true, Bool.not_false] at hc); (first | (with_reducible (have hcc : true = true := hc); clear hcc hc) | (with_reducible (have hcc : false = false := hc); clear hcc hc) | (have hp := hc; (try simp only [decide_eq_true_eq, decide_eq_false_iff_not, bA, bB, bC, bD, bE, bF, bG, bH] at hp))))))
    | (refine Kn.go hK ?_; clear hK K)
    | refine Kn.go (by assumption) ?_
    | (intro n hn; (try simp only [upd_none2, join_none_iff, ite_none, ne_eq] at hn); (try simp only [push_cast, reduceIte, nA, nB, nC, reduceCtorEq, nD, nE, nF, nG, iA, iB, iC, iD, *]))
    | (intro hc)
    | (apply ER_blk; (case hp => rfl); (case hb => (simp only [push_cast, reduceIte, nA, nB, nC, reduceCtorEq, nD, nE, nF, nG, iA, iB, iC, iD]; rfl)); (case hd => (simp only [push_cast, reduceIte, nA, nB, nC, reduceCtorEq, nD, nE, nF, nG, iA, iB, iC, iD]; done)); (case h => (intro hc; simp only [push_cast, reduceIte, nA, nB, nC, reduceCtorEq, nD, nE, nF, nG, iA, iB, iC, iD, *]; rfl)); simp only [push_cast, reduceIte, nA, nB, nC, reduceCtorEq, nD, nE, nF, nG, iA, iB, iC, iD, *])
    | (apply ER_guard; (case hb => (simp only [push_cast, reduceIte, nA, nB, nC, reduceCtorEq, nD, nE, nF, nG, iA, iB, iC, iD]; rfl)); all_goals ((intro hc; first | (exfalso; simp only [push_cast, reduceIte, nA, nB, nC, reduceCtorEq, nD, nE, nF, nG, iA, iB, iC, iD, *] at hc; done) | (exact absurd hc (by decide)) | (with_reducible (have hcc : true = true := hc); clear hcc hc) | (with_reducible (have hcc : false = false := hc); clear hcc hc) | ((try simp only [Bool.not_true, Bool.not_false] at hc); (first | (with_reducible (have hcc : true = true := hc); clear hcc hc) | (with_reducible (have hcc : false = false := hc); clear hcc hc) | (have hp := hc; (try simp only [decide_eq_true_eq, decide_eq_false_iff_not, bA, bB, bC, bD, bE, bF, bG, bH] at hp))))) <;> try simp only [push_cast, reduceIte, nA, nB, nC, reduceCtorEq, nD, nE, nF, nG, iA, iB, iC, iD, *]))
    | fail)
        all_goals exact zero _ _ (by (simp only [push_cast, reduceIte, nA, nB, nC, reduceCtorEq, nD, nE, nF, nG, iA, iB, iC, iD, *])) hE (by omega)
    rw [hlate] at hll
    have hcl : closedS ⟨ql, qla, qhe, qen⟩ = false := by cases h : closedS ⟨ql, qla, qhe, qen⟩; rfl; rw [h] at hll; cases hll
    by_cases cl4 : ql.length = 4
    · have hE : pushE ⟨l, nu, dn⟩ (k : Int) e = 6 := by simp [pushE, hok, hk, hel, hlate, cl4]
      replace hE := Lib.hid hE
      rw [hcl, Bool.false_or] at hll
      have cl4' : ((ql.length : Int) = 4) = True := by simp [cl4]
      clear hlate cl4 h4
      by_cases hk2 : e.kd = 2
      · have hk3 : ¬ e.n ≤ qla := by simpa [hk2] using hll.symm
        have hkT : (e.kd = 2) = True := by simp [hk2]
        clear hll hk2
        refine ACall_of' Try.func13 rfl (Ent_of Try.func13 (by kernel_rfl) rfl) (by simp [Try.ntmps13]) ?_; simp only [Try.ntmps13, Try.results13]
        simp only [Gt.av]
        repeat' (first
    | refine AW_seq_kn fun K hK => ?_
    | refine AW_block ?_
    | (refine does_call rfl rfl ?_; simp only [push_cast, reduceIte, nA, nB, nC, reduceCtorEq, nD, nE, nF, nG, iA, iB, iC, iD, *]; refine ACall.mono (rightElem_p _ _) ?_; (rintro _ _ ⟨rfl, e2⟩; have e3 := e2.symm; clear e2; subst e3); (try simp only [push_cast, reduceIte, nA, nB, nC, reduceCtorEq, nD, nE, nF, nG, iA, iB, iC, iD, *]))
    | (refine does_call rfl rfl ?_; simp only [push_cast, reduceIte, nA, nB, nC, reduceCtorEq, nD, nE, nF, nG, iA, iB, iC, iD, *]; refine ACall.mono (with_p ⟨_, _, _⟩ _ _ (by assumption) _) ?_; (rintro _ _ ⟨rfl, e2⟩; have e3 := e2.symm; clear e2; subst e3); (try simp only [push_cast, reduceIte, nA, nB, nC, reduceCtorEq, nD, nE, nF, nG, iA, iB, iC, iD, *]))
    | (refine does_call rfl rfl ?_; simp only [push_cast, reduceIte, nA, nB, nC, reduceCtorEq, nD, nE, nF, nG, iA, iB, iC, iD, *]; refine ACall.mono (right15_p ⟨_, _, _⟩ (by assumption) _) ?_; (rintro _ _ ⟨rfl, e2⟩; have e3 := e2.symm; clear e2; subst e3); (try simp only [push_cast, reduceIte, nA, nB, nC, reduceCtorEq, nD, nE, nF, nG, iA, iB, iC, iD, *]))
    | (refine does_call rfl rfl ?_; simp only [push_cast, reduceIte, nA, nB, nC, reduceCtorEq, nD, nE, nF, nG, iA, iB, iC, iD, *]; refine ACall.mono (closedR_p ⟨_, _, _, _⟩ (by assumption) _) ?_; (rintro _ _ ⟨rfl, e2⟩; have e3 := e2.symm; clear e2; subst e3); (try simp only [push_cast, reduceIte, nA, nB, nC, reduceCtorEq, nD, nE, nF, nG, iA, iB, iC, iD, *]))
    | ((first
      | refine AW_region E1 ?_ | refine AW_ret ?_ | refine AW_exit ?_ | refine AW_skip ?_ | unfold retQ); try simp only [push_cast, reduceIte, nA, nB, nC, reduceCtorEq, nD, nE, nF, nG, iA, iB, iC, iD, *])
    | (apply AW_cond; (case hc => (simp only [push_cast, reduceIte, nA, nB, nC, reduceCtorEq, nD, nE, nF, nG, iA, iB, iC, iD]; rfl)); all_goals (intro hc; first | (exfalso; simp only [push_cast, reduceIte, nA, nB, nC, reduceCtorEq, nD, nE, nF, nG, iA, iB, iC, iD, *] at hc; done) | (exact absurd hc (by decide)) | (with_reducible (have hcc : true = true := hc); clear hcc hc) | (with_reducible (have hcc : false = false := hc); clear hcc hc) | ((try simp only [Bool.not_true, Bool.not_false] at hc); (first | (with_reducible (have hcc : true = true := hc); clear hcc hc) | (with_reducible (have hcc : false = false := hc); clear hcc hc) | (have hp := hc; (try simp only [decide_eq_true_eq, decide_eq_false_iff_not, bA, bB, bC, bD, bE, bF, bG, bH] at hp))))))
    | (refine Kn.go hK ?_; clear hK K)
    | refine Kn.go (by assumption) ?_
    | (intro n hn; (try simp only [upd_none2, join_none_iff, ite_none, ne_eq] at hn); (try simp only [push_cast, reduceIte, nA, nB, nC, reduceCtorEq, nD, nE, nF, nG, iA, iB, iC, iD, *]))
    | (intro hc)
    | (apply ER_blk; (case hp => rfl); (case hb => (simp only [push_cast, reduceIte, nA, nB, nC, reduceCtorEq, nD, nE, nF, nG, iA, iB, iC, iD]; rfl)); (case hd => (simp only [push_cast, reduceIte, nA, nB, nC, reduceCtorEq, nD, nE, nF, nG, iA, iB, iC, iD]; done)); (case h => (intro hc; simp only [push_cast, reduceIte, nA, nB, nC, reduceCtorEq, nD, nE, nF, nG, iA, iB, iC, iD, *]; rfl)); simp only [push_cast, reduceIte, nA, nB, nC, reduceCtorEq, nD, nE, nF, nG, iA, iB, iC, iD, *])
    | (apply ER_guard; (case hb => (simp only [push_cast, reduceIte, nA, nB, nC, reduceCtorEq, nD, nE, nF, nG, iA, iB, iC, iD]; rfl)); all_goals ((intro hc; first | (exfalso; simp only [push_cast, reduceIte, nA, nB, nC, reduceCtorEq, nD, nE, nF, nG, iA, iB, iC, iD, *] at hc; done) | (exact absurd hc (by decide)) | (with_reducible (have hcc : true = true := hc); clear hcc hc) | (with_reducible (have hcc : false = false := hc); clear hcc hc) | ((try simp only [Bool.not_true, Bool.not_false] at hc); (first | (with_reducible (have hcc : true = true := hc); clear hcc hc) | (with_reducible (have hcc : false = false := hc); clear hcc hc) | (have hp := hc; (try simp only [decide_eq_true_eq, decide_eq_false_iff_not, bA, bB, bC, bD, bE, bF, bG, bH] at hp))))) <;> try simp only [push_cast, reduceIte, nA, nB, nC, reduceCtorEq, nD, nE, nF, nG, iA, iB, iC, iD, *]))
    | fail)
        all_goals exact zero _ _ (by (simp only [push_cast, reduceIte, nA, nB, nC, reduceCtorEq, nD, nE, nF, nG, iA, iB, iC, iD, *])) hE (by omega)
      · clear hll
        refine ACall_of' Try.func13 rfl (Ent_of Try.func13 (by kernel_rfl) rfl) (by simp [Try.ntmps13]) ?_; simp only [Try.ntmps13, Try.results13]
        simp only [Gt.av]
        repeat' (first
    | refine AW_seq_kn fun K hK => ?_
    | refine AW_block ?_
    | (refine does_call rfl rfl ?_; simp only [push_cast, reduceIte, nA, nB, nC, reduceCtorEq, nD, nE, nF, nG, iA, iB, iC, iD, *]; refine ACall.mono (rightElem_p _ _) ?_; (rintro _ _ ⟨rfl, e2⟩; have e3 := e2.symm; clear e2; subst e3); (try simp only [push_cast, reduceIte, nA, nB, nC, reduceCtorEq, nD, nE, nF, nG, iA, iB, iC, iD, *]))
    | (refine does_call rfl rfl ?_; simp only [push_cast, reduceIte, nA, nB, nC, reduceCtorEq, nD, nE, nF, nG, iA, iB, iC, iD, *]; refine ACall.mono (with_p ⟨_, _, _⟩ _ _ (by assumption) _) ?_; (rintro _ _ ⟨rfl, e2⟩; have e3 := e2.symm; clear e2; subst e3); (try simp only [push_cast, reduceIte, nA, nB, nC, reduceCtorEq, nD, nE, nF, nG, iA, iB, iC, iD, *]))
    | (refine does_call rfl rfl ?_; simp only [push_cast, reduceIte, nA, nB, nC, reduceCtorEq, nD, nE, nF, nG, iA, iB, iC, iD, *]; refine ACall.mono (right15_p ⟨_, _, _⟩ (by assumption) _) ?_; (rintro _ _ ⟨rfl, e2⟩; have e3 := e2.symm; clear e2; subst e3); (try simp only [push_cast, reduceIte, nA, nB, nC, reduceCtorEq, nD, nE, nF, nG, iA, iB, iC, iD, *]))
    | (refine does_call rfl rfl ?_; simp only [push_cast, reduceIte, nA, nB, nC, reduceCtorEq, nD, nE, nF, nG, iA, iB, iC, iD, *]; refine ACall.mono (closedR_p ⟨_, _, _, _⟩ (by assumption) _) ?_; (rintro _ _ ⟨rfl, e2⟩; have e3 := e2.symm; clear e2; subst e3); (try simp only [push_cast, reduceIte, nA, nB, nC, reduceCtorEq, nD, nE, nF, nG, iA, iB, iC, iD, *]))
    | ((first
      | refine AW_region E1 ?_ | refine AW_ret ?_ | refine AW_exit ?_ | refine AW_skip ?_ | unfold retQ); try simp only [push_cast, reduceIte, nA, nB, nC, reduceCtorEq, nD, nE, nF, nG, iA, iB, iC, iD, *])
    | (apply AW_cond; (case hc => (simp only [push_cast, reduceIte, nA, nB, nC, reduceCtorEq, nD, nE, nF, nG, iA, iB, iC, iD]; rfl)); all_goals (intro hc; first | (exfalso; simp only [push_cast, reduceIte, nA, nB, nC, reduceCtorEq, nD, nE, nF, nG, iA, iB, iC, iD, *] at hc; done) | (exact absurd hc (by decide)) | (with_reducible (have hcc : true = true := hc); clear hcc hc) | (with_reducible (have hcc : false = false := hc); clear hcc hc) | ((try simp only [Bool.not_true, Bool.not_false] at hc); (first | (with_reducible (have hcc : true = true := hc); clear hcc hc) | (with_reducible (have hcc : false = false := hc); clear hcc hc) | (have hp := hc; (try simp only [decide_eq_true_eq, decide_eq_false_iff_not, bA, bB, bC, bD, bE, bF, bG, bH] at hp))))))
    | (refine Kn.go hK ?_; clear hK K)
    | refine Kn.go (by assumption) ?_
    | (intro n hn; (try simp only [upd_none2, join_none_iff, ite_none, ne_eq] at hn); (try simp only [push_cast, reduceIte, nA, nB, nC, reduceCtorEq, nD, nE, nF, nG, iA, iB, iC, iD, *]))
    | (intro hc)
    | (apply ER_blk; (case hp => rfl); (case hb => (simp only [push_cast, reduceIte, nA, nB, nC, reduceCtorEq, nD, nE, nF, nG, iA, iB, iC, iD]; rfl)); (case hd => (simp only [push_cast, reduceIte, nA, nB, nC, reduceCtorEq, nD, nE, nF, nG, iA, iB, iC, iD]; done)); (case h => (intro hc; simp only [push_cast, reduceIte, nA, nB, nC, reduceCtorEq, nD, nE, nF, nG, iA, iB, iC, iD, *]; rfl)); simp only [push_cast, reduceIte, nA, nB, nC, reduceCtorEq, nD, nE, nF, nG, iA, iB, iC, iD, *])
    | (apply ER_guard; (case hb => (simp only [push_cast, reduceIte, nA, nB, nC, reduceCtorEq, nD, nE, nF, nG, iA, iB, iC, iD]; rfl)); all_goals ((intro hc; first | (exfalso; simp only [push_cast, reduceIte, nA, nB, nC, reduceCtorEq, nD, nE, nF, nG, iA, iB, iC, iD, *] at hc; done) | (exact absurd hc (by decide)) | (with_reducible (have hcc : true = true := hc); clear hcc hc) | (with_reducible (have hcc : false = false := hc); clear hcc hc) | ((try simp only [Bool.not_true, Bool.not_false] at hc); (first | (with_reducible (have hcc : true = true := hc); clear hcc hc) | (with_reducible (have hcc : false = false := hc); clear hcc hc) | (have hp := hc; (try simp only [decide_eq_true_eq, decide_eq_false_iff_not, bA, bB, bC, bD, bE, bF, bG, bH] at hp))))) <;> try simp only [push_cast, reduceIte, nA, nB, nC, reduceCtorEq, nD, nE, nF, nG, iA, iB, iC, iD, *]))
    | fail)
        all_goals exact zero _ _ (by (simp only [push_cast, reduceIte, nA, nB, nC, reduceCtorEq, nD, nE, nF, nG, iA, iB, iC, iD, *])) hE (by omega)
    · have hE : pushE ⟨l, nu, dn⟩ (k : Int) e = 0 := by simp [pushE, hok, hk, hel, hlate, cl4]
      have hS : pushS ⟨l, nu, dn⟩ (k : Int) e = withS ⟨l, nu, dn⟩ k (pushQ ⟨ql, qla, qhe, qen⟩ e) := by
        unfold pushS; rw [if_pos hE]; simp [hk]
      have hR2 : R = AV.t [.g (Gt.av (withS ⟨l, nu, dn⟩ k (pushQ ⟨ql, qla, qhe, qen⟩ e))), .c (.int .i64 0)] := by rw [← hS, ← hE]; exact hR
      replace hR2 := Lib.hid hR2
      clear hR hE hS zero
      rw [hcl, Bool.false_or] at hll
      have cl4' : ¬ (ql.length : Int) = 4 := by omega
      exact (rpush_ok l nu dn k ql qla qhe qen e H hg hs hok c0 hk hkl hklt hr h4 hel hcl cl4' (hg.la _ (List.mem_of_getElem? hk)) (by
        by_cases c : e.kd = 2
        · exact .inr ⟨c, by simpa [c] using hll.symm⟩
        · exact .inl ⟨c, elOk_n hel c⟩)).mono fun r H' h => ⟨by rw [h.1, show R = _ from hR2], h.2⟩
end Go.Proofs.Ytcmpciciodcddaa
