/- Walks: an element is put. -/
import Derived.Test.YtcmpciciodcddaaK
namespace Go.Proofs.Ytcmpciciodcddaa
open Go.RowKit
open Nat renaming reduceEqDiff → nA, reduceLT → nB, reduceLeDiff → nC, reduceAdd → nD, reduceMul → nE, reduceSub → nF, reduceBEq → nG
open Int renaming reduceToNat → iA, reduceLT → iB, reduceLE → iC, reduceEq → iD
open Bool renaming and_eq_true → bA, or_eq_true → bB, or_eq_false_iff → bC, and_eq_false_iff → bD, not_eq_true' → bE, not_eq_false' → bF, not_true → bG, not_false → bH
set_option linter.all false
set_option maxHeartbeats 4000000
attribute [local irreducible] AW Does

theorem clone_o (l : List El) (hl : l.length ≤ 1000000) (H : Heap) : ACall Try.prog 31 [.l 5 (l.map El.av)] H fun r H' => OwnL H' r 29 5 (l.map El.av) H := by
  have hE24 := tE37
  refine ACall_of' Try.func31 rfl (Ent_of Try.func31 (by kernel_rfl) rfl) (by simp [Try.ntmps31]) ?_; simp only [Try.ntmps31, Try.results31]
  repeat' (first
    | refine AW_seq_kn fun K hK => ?_
    | refine AW_block ?_
    | (refine does_isnil_l rfl rfl rfl hE24 ?_; intro b hb; (try simp only [push_cast, reduceIte, nA, nB, nC, reduceCtorEq, nD, nE, nF, nG, iA, iB, iC, iD, *]))
    | ((first
      | refine AW_region E1 ?_ | refine AW_ret ?_ | refine AW_exit ?_ | refine AW_skip ?_ | unfold retQ); try simp only [push_cast, reduceIte, nA, nB, nC, reduceCtorEq, nD, nE, nF, nG, iA, iB, iC, iD, *])
    | (apply AW_cond; (case hc => (simp only [push_cast, reduceIte, nA, nB, nC, reduceCtorEq, nD, nE, nF, nG, iA, iB, iC, iD]; rfl)); all_goals (intro hc; first | (exfalso; simp only [push_cast, reduceIte, nA, nB, nC, reduceCtorEq, nD, nE, nF, nG, iA, iB, iC, iD, *] at hc; done) | (exact absurd hc (by decide)) | (with_reducible (have hcc : true = true := hc); clear hcc hc) | (with_reducible (have hcc : false = false := hc); clear hcc hc) | ((try simp only [Bool.not_true, Bool.not_false] at hc); (first | (with_reducible (have hcc : true = true := hc); clear hcc hc) | (with_reducible (have hcc : false = false := hc); clear hcc hc) | (have hp := hc; (try simp only [decide_eq_true_eq, decide_eq_false_iff_not, bA, bB, bC, bD, bE, bF, bG, bH] at hp))))))
    | (refine Kn.go hK ?_; clear hK K)
    | refine Kn.go (by assumption) ?_
    | (intro n hn; (try simp only [upd_none2, join_none_iff, ite_none, ne_eq] at hn); (try simp only [push_cast, reduceIte, nA, nB, nC, reduceCtorEq, nD, nE, nF, nG, iA, iB, iC, iD, *]))
    | (intro hc)
    | fail)
  · refine ⟨_, _, Weak.refl _ _, .inl ⟨⟨_, rfl⟩, by first | rfl | exact hb hc, rfl⟩⟩
  · have hown : OwnL (upd H n (.r 29 5 0 [])) (.s n 5 0 0 0) 29 5 [] H := .inr ⟨n, 0, rfl, upd_same _ _ _, (del_upd_same hn).symm⟩
    refine does_appL rfl rfl rfl hown tE37 tS29 tB29 tZ29 rfl (by decide) ?_ ?_ ?_
    · simp only [List.length_map, List.length_nil, maxLen]; omega
    · simp only [List.length_map, List.length_nil]; omega
    intro x' H' hown'
    have hcs' := hown'.cs
    (try simp only [push_cast, reduceIte, nA, nB, nC, reduceCtorEq, nD, nE, nF, nG, iA, iB, iC, iD, *])
    repeat' (first
    | refine AW_seq_kn fun K hK => ?_
    | refine AW_block ?_
    | ((first
      | refine AW_region E1 ?_ | refine AW_ret ?_ | refine AW_exit ?_ | refine AW_skip ?_ | unfold retQ); try simp only [push_cast, reduceIte, nA, nB, nC, reduceCtorEq, nD, nE, nF, nG, iA, iB, iC, iD, *])
    | (apply AW_cond; (case hc => (simp only [push_cast, reduceIte, nA, nB, nC, reduceCtorEq, nD, nE, nF, nG, iA, iB, iC, iD]; rfl)); all_goals (intro hc; first | (exfalso; simp only [push_cast, reduceIte, nA, nB, nC, reduceCtorEq, nD, nE, nF, nG, iA, iB, iC, iD, *] at hc; done) | (exact absurd hc (by decide)) | (with_reducible (have hcc : true = true := hc); clear hcc hc) | (with_reducible (have hcc : false = false := hc); clear hcc hc) | ((try simp only [Bool.not_true, Bool.not_false] at hc); (first | (with_reducible (have hcc : true = true := hc); clear hcc hc) | (with_reducible (have hcc : false = false := hc); clear hcc hc) | (have hp := hc; (try simp only [decide_eq_true_eq, decide_eq_false_iff_not, bA, bB, bC, bD, bE, bF, bG, bH] at hp))))))
    | (refine Kn.go hK ?_; clear hK K)
    | refine Kn.go (by assumption) ?_
    | (intro n hn; (try simp only [upd_none2, join_none_iff, ite_none, ne_eq] at hn); (try simp only [push_cast, reduceIte, nA, nB, nC, reduceCtorEq, nD, nE, nF, nG, iA, iB, iC, iD, *]))
    | (intro hc)
    | fail)
    exact ⟨_, _, Weak.refl _ _, by simpa using hown'⟩
theorem clone_p (l : List El) (hl : l.length ≤ 1000000) : Pure Try.prog 31 [.l 5 (l.map El.av)] (.l 5 (l.map El.av)) := fun H =>
  ACall.weak ((clone_o l hl H).mono fun r H' h => ⟨_, _, h.weak (fun F F' hF hi _ => hi), rfl, rfl⟩)
def pushQ (q : Qu) (e : El) : Qu := { q with el := q.el ++ [e], la := if q.la < e.n then e.n else q.la }
def lateS (q : Qu) (e : El) : Bool := closedS q || (decide (e.kd = 2) && decide (e.n ≤ q.la))
def pushE (g : Gt) (n : Int) (e : El) : Int :=
  if gOk g = true then (if n < 0 then 2 else match g.qs[n.toNat]? with
    | none => 2
    | some q => if elOk e = true then (if lateS q e = true then 2 else if q.el.length = 4 then 6 else 0) else 151) else 250
def zGt : Gt := ⟨[], 0, 0⟩
def pushS (g : Gt) (n : Int) (e : El) : Gt := if pushE g n e = 0 then match g.qs[n.toNat]? with
  | none => zGt
  | some q => withS g n.toNat (pushQ q e) else zGt

theorem gOk_rows {g : Gt} (h : gOk g = true) {k : Nat} {q : Qu} (hq : g.qs[k]? = some q) : rightQ q = true := by
  simp only [gOk, Bool.and_eq_true] at h
  exact List.all_eq_true.1 h.1.1.2 q (List.mem_of_getElem? hq)
theorem gOk_len {g : Gt} (h : gOk g = true) : 1 ≤ g.qs.length ∧ g.qs.length ≤ 16 := by
  simp [gOk, gA] at h; omega
theorem push_ok (l : List Qu) (nu dn : Int) (k : Nat) (ql : List El) (qla : Int) (qhe qen : Bool) (e : El) (H : Heap) (hg : Lens ⟨l, nu, dn⟩) (hs : l.length ≤ 1000) (hok : gOk ⟨l, nu, dn⟩ = true) (c0 : ¬ (k : Int) < 0) (hk : l[k]? = some ⟨ql, qla, qhe, qen⟩) (hkl : ¬ (l.length : Int) ≤ (k : Int)) (hklt : (k : Int) < (l.length : Int)) (h4 : ql.length ≤ 4) (h4m : ql.length ≤ maxLen) (hel : elOk e = true) (hcl : closedS ⟨ql, qla, qhe, qen⟩ = false) (cl4' : ¬ (ql.length : Int) = 4)
    (hkn : ¬ e.kd = 2 ∨ (e.kd = 2 ∧ ¬ e.n ≤ qla)) : ACall Try.prog 12 [.g (Gt.av ⟨l, nu, dn⟩), .c (.int .i64 (k : Int)), .g (El.av e)] H fun r H' => r = .t [.g (Gt.av (withS ⟨l, nu, dn⟩ k (pushQ ⟨ql, qla, qhe, qen⟩ e))), .c (.int .i64 0)] ∧ H' = H := by
  obtain ⟨R, hR2⟩ : ∃ R, R = AV.t [.g (Gt.av (withS ⟨l, nu, dn⟩ k (pushQ ⟨ql, qla, qhe, qen⟩ e))), .c (.int .i64 0)] := ⟨_, rfl⟩
  rw [← hR2]
  replace hR2 := Lib.hid hR2
  have hcop := copied_o ⟨l, nu, dn⟩ hs
  have hclo := clone_o ql (by omega)
  have hE37 := tE37
  have hS37 := tS29
  have hB37 := tB29
  have hZ37 := tZ29
  simp only [Gt.av] at hcop
  rcases hkn with hk2 | ⟨hk2, hk3⟩
  case' inr =>
    have hkT : (e.kd = 2) = True := by simp [hk2]
    clear hk2
  all_goals
    refine ACall_of' Try.func12 rfl (Ent_of Try.func12 (by kernel_rfl) rfl) (by simp [Try.ntmps12]) ?_; simp only [Try.ntmps12, Try.results12]
    simp only [Gt.av]
    repeat' (first
    | refine AW_seq_kn fun K hK => ?_
    | refine AW_block ?_
    | (refine does_call rfl rfl ?_; simp only [push_cast, reduceIte, nA, nB, nC, reduceCtorEq, nD, nE, nF, nG, iA, iB, iC, iD, *]; refine ACall.mono (hcop _) ?_; rintro _ _ ⟨m, hm, rfl, rfl⟩; simp only [upd_none2, ne_eq] at hm; (try simp only [push_cast, reduceIte, nA, nB, nC, reduceCtorEq, nD, nE, nF, nG, iA, iB, iC, iD, *]))
    | (refine does_call rfl rfl ?_; simp only [push_cast, reduceIte, nA, nB, nC, reduceCtorEq, nD, nE, nF, nG, iA, iB, iC, iD, *]; refine ACall.mono (hclo _) ?_; intro x G hown; rcases OwnL.split hown with ⟨ad, rfl, e2, rfl⟩ | ⟨m2, cap2, rfl, rfl, hm2⟩ <;> (try (obtain rfl := List.map_eq_nil_iff.1 e2)) <;> (try clear e2) <;> (try clear hown) <;> (try simp only [upd_none2, ne_eq] at hm2) <;> (try simp only [push_cast, reduceIte, nA, nB, nC, reduceCtorEq, nD, nE, nF, nG, iA, iB, iC, iD, *]))
    | (refine does_app1F rfl rfl rfl rfl OwnL.none' (by simp only [upd_none2]; assumption) hE37 hS37 hB37 hZ37 rfl (by decide) ?h63 ?hby ?_; (case h63 => (simp [maxLen]; done)); (case hby => (simp; done)); (try simp only [push_cast, reduceIte, nA, nB, nC, reduceCtorEq, nD, nE, nF, nG, iA, iB, iC, iD, *]))
    | (refine does_app1F rfl rfl rfl rfl (OwnL.at (rows := ql.map El.av) (by simp) (by simp only [upd_none2]; assumption)) (by simp only [upd_none2]; assumption) hE37 hS37 hB37 hZ37 rfl (by decide) ?h63 ?hby ?_; (case h63 => (simp [maxLen]; omega)); (case hby => (simp; omega)); (try simp only [push_cast, reduceIte, nA, nB, nC, reduceCtorEq, nD, nE, nF, nG, iA, iB, iC, iD, *]))
    | (refine does_call rfl rfl ?_; simp only [push_cast, reduceIte, nA, nB, nC, reduceCtorEq, nD, nE, nF, nG, iA, iB, iC, iD, *]; refine ACall.mono (checkElem_p _ _) ?_; (rintro _ _ ⟨rfl, e2⟩; have e3 := e2.symm; clear e2; subst e3); (try simp only [push_cast, reduceIte, nA, nB, nC, reduceCtorEq, nD, nE, nF, nG, iA, iB, iC, iD, *]))
    | (refine does_call rfl rfl ?_; simp only [push_cast, reduceIte, nA, nB, nC, reduceCtorEq, nD, nE, nF, nG, iA, iB, iC, iD, *]; refine ACall.mono (check15_p ⟨_, _, _⟩ (by assumption) _) ?_; (rintro _ _ ⟨rfl, e2⟩; have e3 := e2.symm; clear e2; subst e3); (try simp only [push_cast, reduceIte, nA, nB, nC, reduceCtorEq, nD, nE, nF, nG, iA, iB, iC, iD, *]))
    | (refine does_call rfl rfl ?_; simp only [push_cast, reduceIte, nA, nB, nC, reduceCtorEq, nD, nE, nF, nG, iA, iB, iC, iD, *]; refine ACall.mono (ends_p ⟨_, _, _, _⟩ (by assumption) _) ?_; (rintro _ _ ⟨rfl, e2⟩; have e3 := e2.symm; clear e2; subst e3); (try simp only [push_cast, reduceIte, nA, nB, nC, reduceCtorEq, nD, nE, nF, nG, iA, iB, iC, iD, *]))
    | ((first
      | refine AW_region_draw (id := 14) E1 (fun f => [].contains f) [(0, false, []), (1, false, []), (3, true, []), (2, false, [3, 4]), (4, false, []), (5, false, []), (6, false, []), (7, false, [])] [[], [0], [0, 1], [], [3], [0, 1, 2, 3, 4], [0, 1, 2, 3, 4, 5], [0, 1, 2, 3, 4, 5, 6]] mixed (by kernel_rfl) ?_
      | refine AW_region E1 ?_ | refine AW_ret ?_ | refine AW_exit ?_ | refine AW_skip ?_ | unfold retQ); try simp only [push_cast, reduceIte, nA, nB, nC, reduceCtorEq, nD, nE, nF, nG, iA, iB, iC, iD, *])
    | (apply AW_cond; (case hc => (simp only [push_cast, reduceIte, nA, nB, nC, reduceCtorEq, nD, nE, nF, nG, iA, iB, iC, iD]; rfl)); all_goals (intro hc; first | (exfalso; simp only [push_cast, reduceIte, nA, nB, nC, reduceCtorEq, nD, nE, nF, nG, iA, iB, iC, iD, *] at hc; done) | (exact absurd hc (by decide)) | (with_reducible (have hcc : true = true := hc); clear hcc hc) | (with_reducible (have hcc : false = false := hc); clear hcc hc) | ((try simp only [Bool.not_true, Bool.not_false] at hc); (first | (with_reducible (have hcc : true = true := hc); clear hcc hc) | (with_reducible (have hcc : false = false := hc); clear hcc hc) | (have hp := hc; (try simp only [decide_eq_true_eq, decide_eq_false_iff_not, bA, bB, bC, bD, bE, bF, bG, bH] at hp))))))
    | (refine Kn.go hK ?_; clear hK K)
    | refine Kn.go (by assumption) ?_
    | (intro n hn; (try simp only [upd_none2, join_none_iff, ite_none, ne_eq] at hn); (try simp only [push_cast, reduceIte, nA, nB, nC, reduceCtorEq, nD, nE, nF, nG, iA, iB, iC, iD, *]))
    | (intro hc)
    | (apply ER_blk; (case hp => rfl); (case hb => (simp only [push_cast, reduceIte, nA, nB, nC, reduceCtorEq, nD, nE, nF, nG, iA, iB, iC, iD]; rfl)); (case hd => (simp only [push_cast, reduceIte, nA, nB, nC, reduceCtorEq, nD, nE, nF, nG, iA, iB, iC, iD]; done)); (case h => (intro hc; simp only [push_cast, reduceIte, nA, nB, nC, reduceCtorEq, nD, nE, nF, nG, iA, iB, iC, iD, *]; rfl)); simp only [push_cast, reduceIte, nA, nB, nC, reduceCtorEq, nD, nE, nF, nG, iA, iB, iC, iD, *])
    | (apply ER_guard; (case hb => (simp only [push_cast, reduceIte, nA, nB, nC, reduceCtorEq, nD, nE, nF, nG, iA, iB, iC, iD]; rfl)); all_goals ((intro hc; first | (exfalso; simp only [push_cast, reduceIte, nA, nB, nC, reduceCtorEq, nD, nE, nF, nG, iA, iB, iC, iD, *] at hc; done) | (exact absurd hc (by decide)) | (with_reducible (have hcc : true = true := hc); clear hcc hc) | (with_reducible (have hcc : false = false := hc); clear hcc hc) | ((try simp only [Bool.not_true, Bool.not_false] at hc); (first | (with_reducible (have hcc : true = true := hc); clear hcc hc) | (with_reducible (have hcc : false = false := hc); clear hcc hc) | (have hp := hc; (try simp only [decide_eq_true_eq, decide_eq_false_iff_not, bA, bB, bC, bD, bE, bF, bG, bH] at hp))))) <;> try simp only [push_cast, reduceIte, nA, nB, nC, reduceCtorEq, nD, nE, nF, nG, iA, iB, iC, iD, *]))
    | fail)
    all_goals
      rw [show R = _ from hR2]
      refine ⟨_, H, ((OwnL.of (m := m) (ty := 39) (cap := l.length) (rows := (l.set k (pushQ ⟨_, qla, qhe, qen⟩ e)).map Qu.av) ?hm ?hl).weak (fun F F' hF hi ho => Imp.t (Imps.cons (Imp.g (Imps.cons hi (fun _ => rfl) (Imps.cons (Imp.refl hF _) id (Imps.cons (Imp.refl hF _) id Imps.nil)))) (by intro hh; cases hh) (Imps.cons (Imp.refl hF _) id Imps.nil)))).trans (Weak.less (le_del ?hle hm.2.2.2.2)), rfl, rfl⟩
      case hm =>
        rw [List.map_set]
        simp only [pushQ, List.map_append, List.map_cons, List.map_nil, List.nil_append, push_cast, reduceIte, nA, nB, nC, reduceCtorEq, nD, nE, nF, nG, iA, iB, iC, iD, *]
      case hl => simp
      case hle => (simp only [push_cast, reduceIte, nA, nB, nC, reduceCtorEq, nD, nE, nF, nG, iA, iB, iC, iD, *])
theorem push_p (g : Gt) (n : Int) (e : El) (hg : Lens g) (hs : g.qs.length ≤ 1000) : Pure Try.prog 12 [.g (Gt.av g), .c (.int .i64 n), .g (El.av e)] (.t [.g (Gt.av (pushS g n e)), .c (.int .i64 (pushE g n e))]) := by
  intro H
  obtain ⟨R, hR⟩ : ∃ R, R = AV.t [.g (Gt.av (pushS g n e)), .c (.int .i64 (pushE g n e))] := ⟨_, rfl⟩
  rw [← hR]
  have zero : ∀ (G : Heap) (er : Int), Heap.le H G → pushE g n e = er → er ≠ 0 → ∃ r2 H2, Weak (.t [.g [.c (.slice none 0 0), .c (.int .u64 0), .c (.int .u64 0)], .c (.int .i64 er)]) G r2 H2 ∧ r2 = R ∧ H2 = H := fun G er hle he h0 => by
    have e1 : pushS g n e = zGt := by unfold pushS; rw [if_neg (by rw [he]; exact h0)]
    rw [hR, e1, he]
    refine ⟨.t [.g [.l 4 [], .c (.int .u64 0), .c (.int .u64 0)], .c (.int .i64 er)], H, Weak.imp ?_ hle, rfl, rfl⟩
    (intros; repeat (first | assumption | exact Imp.refl (Mem.le.refl _) _ | exact Imp.refl (by assumption) _ | exact Imp.nil_l _ | refine Imp.t ?_ | refine Imp.g ?_ | exact Imps.nil | refine Imps.cons ?_ (by intro hh; first | rfl | (cases hh; done)) ?_))
  replace hR := Lib.hid hR
  obtain ⟨l, nu, dn⟩ := g
  simp only at hs
  cases hok : gOk ⟨l, nu, dn⟩
  · have hE : pushE ⟨l, nu, dn⟩ n e = 250 := by simp [pushE, hok]
    replace hE := Lib.hid hE
    refine ACall_of' Try.func12 rfl (Ent_of Try.func12 (by kernel_rfl) rfl) (by simp [Try.ntmps12]) ?_; simp only [Try.ntmps12, Try.results12]
    simp only [Gt.av]
    repeat' (first
    | refine AW_seq_kn fun K hK => ?_
    | refine AW_block ?_
    | (refine does_call rfl rfl ?_; simp only [push_cast, reduceIte, nA, nB, nC, reduceCtorEq, nD, nE, nF, nG, iA, iB, iC, iD, *]; refine ACall.mono (checkElem_p _ _) ?_; (rintro _ _ ⟨rfl, e2⟩; have e3 := e2.symm; clear e2; subst e3); (try simp only [push_cast, reduceIte, nA, nB, nC, reduceCtorEq, nD, nE, nF, nG, iA, iB, iC, iD, *]))
    | (refine does_call rfl rfl ?_; simp only [push_cast, reduceIte, nA, nB, nC, reduceCtorEq, nD, nE, nF, nG, iA, iB, iC, iD, *]; refine ACall.mono (check15_p ⟨_, _, _⟩ (by assumption) _) ?_; (rintro _ _ ⟨rfl, e2⟩; have e3 := e2.symm; clear e2; subst e3); (try simp only [push_cast, reduceIte, nA, nB, nC, reduceCtorEq, nD, nE, nF, nG, iA, iB, iC, iD, *]))
    | (refine does_call rfl rfl ?_; simp only [push_cast, reduceIte, nA, nB, nC, reduceCtorEq, nD, nE, nF, nG, iA, iB, iC, iD, *]; refine ACall.mono (ends_p ⟨_, _, _, _⟩ (by assumption) _) ?_; (rintro _ _ ⟨rfl, e2⟩; have e3 := e2.symm; clear e2; subst e3); (try simp only [push_cast, reduceIte, nA, nB, nC, reduceCtorEq, nD, nE, nF, nG, iA, iB, iC, iD, *]))
    | ((first
      | refine AW_region_draw (id := 14) E1 (fun f => [].contains f) [(0, false, []), (1, false, []), (3, true, []), (2, false, [3, 4]), (4, false, []), (5, false, []), (6, false, []), (7, false, [])] [[], [0], [0, 1], [], [3], [0, 1, 2, 3, 4], [0, 1, 2, 3, 4, 5], [0, 1, 2, 3, 4, 5, 6]] mixed (by kernel_rfl) ?_
      | refine AW_region E1 ?_ | refine AW_ret ?_ | refine AW_exit ?_ | refine AW_skip ?_ | unfold retQ); try simp only [push_cast, reduceIte, nA, nB, nC, reduceCtorEq, nD, nE, nF, nG, iA, iB, iC, iD, *])
    | (apply AW_cond; (case hc => (simp only [push_cast, reduceIte, nA, nB, nC, reduceCtorEq, nD, nE, nF, nG, iA, iB, iC, iD]; rfl)); all_goals (intro hc; first | (exfalso; simp only [push_cast, reduceIte, nA, nB, nC, reduceCtorEq, nD, nE, nF, nG, iA, iB, iC, iD, *] at hc; done) | (exact absurd hc (by decide)) | (with_reducible (have hcc : true = true := hc); clear hcc hc) | (with_reducible (have hcc : false = false := hc); clear hcc hc) | ((try simp only [Bool.not_true, Bool.not_false] at hc); (first | (with_reducible (have hcc : true = true := hc); clear hcc hc) | (with_reducible (have hcc : false = false := hc); clear hcc hc) | (have hp := hc; (try simp only [decide_eq_true_eq, decide_eq_false_iff_not, bA, bB, bC, bD, bE, bF, bG, bH] at hp))))))
    | (refine Kn.go hK ?_; clear hK K)
    | refine Kn.go (by assumption) ?_
    | (intro n hn; (try simp only [upd_none2, join_none_iff, ite_none, ne_eq] at hn); (try simp only [push_cast, reduceIte, nA, nB, nC, reduceCtorEq, nD, nE, nF, nG, iA, iB, iC, iD, *]))
    | (intro hc)
    | (apply ER_blk; (case hp => rfl); (case hb => (simp only [push_cast, reduceIte, nA, nB, nC, reduceCtorEq, nD, nE, nF, nG, iA, iB, iC, iD]; rfl)); (case hd => (simp only [push_cast, reduceIte, nA, nB, nC, reduceCtorEq, nD, nE, nF, nG, iA, iB, iC, iD]; done)); (case h => (intro hc; simp only [push_cast, reduceIte, nA, nB, nC, reduceCtorEq, nD, nE, nF, nG, iA, iB, iC, iD, *]; rfl)); simp only [push_cast, reduceIte, nA, nB, nC, reduceCtorEq, nD, nE, nF, nG, iA, iB, iC, iD, *])
    | (apply ER_guard; (case hb => (simp only [push_cast, reduceIte, nA, nB, nC, reduceCtorEq, nD, nE, nF, nG, iA, iB, iC, iD]; rfl)); all_goals ((intro hc; first | (exfalso; simp only [push_cast, reduceIte, nA, nB, nC, reduceCtorEq, nD, nE, nF, nG, iA, iB, iC, iD, *] at hc; done) | (exact absurd hc (by decide)) | (with_reducible (have hcc : true = true := hc); clear hcc hc) | (with_reducible (have hcc : false = false := hc); clear hcc hc) | ((try simp only [Bool.not_true, Bool.not_false] at hc); (first | (with_reducible (have hcc : true = true := hc); clear hcc hc) | (with_reducible (have hcc : false = false := hc); clear hcc hc) | (have hp := hc; (try simp only [decide_eq_true_eq, decide_eq_false_iff_not, bA, bB, bC, bD, bE, bF, bG, bH] at hp))))) <;> try simp only [push_cast, reduceIte, nA, nB, nC, reduceCtorEq, nD, nE, nF, nG, iA, iB, iC, iD, *]))
    | fail)
    exact zero _ _ (by (simp only [push_cast, reduceIte, nA, nB, nC, reduceCtorEq, nD, nE, nF, nG, iA, iB, iC, iD, *])) hE (by omega)
  by_cases c0 : n < 0
  · have hE : pushE ⟨l, nu, dn⟩ n e = 2 := by simp [pushE, hok, c0]
    replace hE := Lib.hid hE
    refine ACall_of' Try.func12 rfl (Ent_of Try.func12 (by kernel_rfl) rfl) (by simp [Try.ntmps12]) ?_; simp only [Try.ntmps12, Try.results12]
    simp only [Gt.av]
    repeat' (first
    | refine AW_seq_kn fun K hK => ?_
    | refine AW_block ?_
    | (refine does_call rfl rfl ?_; simp only [push_cast, reduceIte, nA, nB, nC, reduceCtorEq, nD, nE, nF, nG, iA, iB, iC, iD, *]; refine ACall.mono (checkElem_p _ _) ?_; (rintro _ _ ⟨rfl, e2⟩; have e3 := e2.symm; clear e2; subst e3); (try simp only [push_cast, reduceIte, nA, nB, nC, reduceCtorEq, nD, nE, nF, nG, iA, iB, iC, iD, *]))
    | (refine does_call rfl rfl ?_; simp only [push_cast, reduceIte, nA, nB, nC, reduceCtorEq, nD, nE, nF, nG, iA, iB, iC, iD, *]; refine ACall.mono (check15_p ⟨_, _, _⟩ (by assumption) _) ?_; (rintro _ _ ⟨rfl, e2⟩; have e3 := e2.symm; clear e2; subst e3); (try simp only [push_cast, reduceIte, nA, nB, nC, reduceCtorEq, nD, nE, nF, nG, iA, iB, iC, iD, *]))
    | (refine does_call rfl rfl ?_; simp only [push_cast, reduceIte, nA, nB, nC, reduceCtorEq, nD, nE, nF, nG, iA, iB, iC, iD, *]; refine ACall.mono (ends_p ⟨_, _, _, _⟩ (by assumption) _) ?_; (rintro _ _ ⟨rfl, e2⟩; have e3 := e2.symm; clear e2; subst e3); (try simp only [push_cast, reduceIte, nA, nB, nC, reduceCtorEq, nD, nE, nF, nG, iA, iB, iC, iD, *]))
    | ((first
      | refine AW_region_draw (id := 14) E1 (fun f => [].contains f) [(0, false, []), (1, false, []), (3, true, []), (2, false, [3, 4]), (4, false, []), (5, false, []), (6, false, []), (7, false, [])] [[], [0], [0, 1], [], [3], [0, 1, 2, 3, 4], [0, 1, 2, 3, 4, 5], [0, 1, 2, 3, 4, 5, 6]] mixed (by kernel_rfl) ?_
      | refine AW_region E1 ?_ | refine AW_ret ?_ | refine AW_exit ?_ | refine AW_skip ?_ | unfold retQ); try simp only [push_cast, reduceIte, nA, nB, nC, reduceCtorEq, nD, nE, nF, nG, iA, iB, iC, iD, *])
    | (apply AW_cond; (case hc => (simp only [push_cast, reduceIte, nA, nB, nC, reduceCtorEq, nD, nE, nF, nG, iA, iB, iC, iD]; rfl)); all_goals (intro hc; first | (exfalso; simp only [push_cast, reduceIte, nA, nB, nC, reduceCtorEq, nD, nE, nF, nG, iA, iB, iC, iD, *] at hc; done) | (exact absurd hc (by decide)) | (with_reducible (have hcc : true = true := hc); clear hcc hc) | (with_reducible (have hcc : false = false := hc); clear hcc hc) | ((try simp only [Bool.not_true, Bool.not_false] at hc); (first | (with_reducible (have hcc : true = true := hc); clear hcc hc) | (with_reducible (have hcc : false = false := hc); clear hcc hc) | (have hp := hc; (try simp only [decide_eq_true_eq, decide_eq_false_iff_not, bA, bB, bC, bD, bE, bF, bG, bH] at hp))))))
    | (refine Kn.go hK ?_; clear hK K)
    | refine Kn.go (by assumption) ?_
    | (intro n hn; (try simp only [upd_none2, join_none_iff, ite_none, ne_eq] at hn); (try simp only [push_cast, reduceIte, nA, nB, nC, reduceCtorEq, nD, nE, nF, nG, iA, iB, iC, iD, *]))
    | (intro hc)
    | (apply ER_blk; (case hp => rfl); (case hb => (simp only [push_cast, reduceIte, nA, nB, nC, reduceCtorEq, nD, nE, nF, nG, iA, iB, iC, iD]; rfl)); (case hd => (simp only [push_cast, reduceIte, nA, nB, nC, reduceCtorEq, nD, nE, nF, nG, iA, iB, iC, iD]; done)); (case h => (intro hc; simp only [push_cast, reduceIte, nA, nB, nC, reduceCtorEq, nD, nE, nF, nG, iA, iB, iC, iD, *]; rfl)); simp only [push_cast, reduceIte, nA, nB, nC, reduceCtorEq, nD, nE, nF, nG, iA, iB, iC, iD, *])
    | (apply ER_guard; (case hb => (simp only [push_cast, reduceIte, nA, nB, nC, reduceCtorEq, nD, nE, nF, nG, iA, iB, iC, iD]; rfl)); all_goals ((intro hc; first | (exfalso; simp only [push_cast, reduceIte, nA, nB, nC, reduceCtorEq, nD, nE, nF, nG, iA, iB, iC, iD, *] at hc; done) | (exact absurd hc (by decide)) | (with_reducible (have hcc : true = true := hc); clear hcc hc) | (with_reducible (have hcc : false = false := hc); clear hcc hc) | ((try simp only [Bool.not_true, Bool.not_false] at hc); (first | (with_reducible (have hcc : true = true := hc); clear hcc hc) | (with_reducible (have hcc : false = false := hc); clear hcc hc) | (have hp := hc; (try simp only [decide_eq_true_eq, decide_eq_false_iff_not, bA, bB, bC, bD, bE, bF, bG, bH] at hp))))) <;> try simp only [push_cast, reduceIte, nA, nB, nC, reduceCtorEq, nD, nE, nF, nG, iA, iB, iC, iD, *]))
    | fail)
    exact zero _ _ (by (simp only [push_cast, reduceIte, nA, nB, nC, reduceCtorEq, nD, nE, nF, nG, iA, iB, iC, iD, *])) hE (by omega)
  obtain ⟨k, rfl⟩ : ∃ k : Nat, n = (k : Int) := ⟨n.toNat, by omega⟩
  cases hk : l[k]? with
  | none =>
    have hE : pushE ⟨l, nu, dn⟩ (k : Int) e = 2 := by simp [pushE, hok, hk]
    replace hE := Lib.hid hE
    have hge : (l.length : Int) ≤ (k : Int) := by have := List.getElem?_eq_none_iff.1 hk; omega
    clear hk
    refine ACall_of' Try.func12 rfl (Ent_of Try.func12 (by kernel_rfl) rfl) (by simp [Try.ntmps12]) ?_; simp only [Try.ntmps12, Try.results12]
    simp only [Gt.av]
    repeat' (first
    | refine AW_seq_kn fun K hK => ?_
    | refine AW_block ?_
    | (refine does_call rfl rfl ?_; simp only [push_cast, reduceIte, nA, nB, nC, reduceCtorEq, nD, nE, nF, nG, iA, iB, iC, iD, *]; refine ACall.mono (checkElem_p _ _) ?_; (rintro _ _ ⟨rfl, e2⟩; have e3 := e2.symm; clear e2; subst e3); (try simp only [push_cast, reduceIte, nA, nB, nC, reduceCtorEq, nD, nE, nF, nG, iA, iB, iC, iD, *]))
    | (refine does_call rfl rfl ?_; simp only [push_cast, reduceIte, nA, nB, nC, reduceCtorEq, nD, nE, nF, nG, iA, iB, iC, iD, *]; refine ACall.mono (check15_p ⟨_, _, _⟩ (by assumption) _) ?_; (rintro _ _ ⟨rfl, e2⟩; have e3 := e2.symm; clear e2; subst e3); (try simp only [push_cast, reduceIte, nA, nB, nC, reduceCtorEq, nD, nE, nF, nG, iA, iB, iC, iD, *]))
    | (refine does_call rfl rfl ?_; simp only [push_cast, reduceIte, nA, nB, nC, reduceCtorEq, nD, nE, nF, nG, iA, iB, iC, iD, *]; refine ACall.mono (ends_p ⟨_, _, _, _⟩ (by assumption) _) ?_; (rintro _ _ ⟨rfl, e2⟩; have e3 := e2.symm; clear e2; subst e3); (try simp only [push_cast, reduceIte, nA, nB, nC, reduceCtorEq, nD, nE, nF, nG, iA, iB, iC, iD, *]))
    | ((first
      | refine AW_region_draw (id := 14) E1 (fun f => [].contains f) [(0, false, []), (1, false, []), (3, true, []), (2, false, [3, 4]), (4, false, []), (5, false, []), (6, false, []), (7, false, [])] [[], [0], [0, 1], [], [3], [0, 1, 2, 3, 4], [0, 1, 2, 3, 4, 5], [0, 1, 2, 3, 4, 5, 6]] mixed (by kernel_rfl) ?_
      | refine AW_region E1 ?_ | refine AW_ret ?_ | refine AW_exit ?_ | refine AW_skip ?_ | unfold retQ); try simp only [push_cast, reduceIte, nA, nB, nC, reduceCtorEq, nD, nE, nF, nG, iA, iB, iC, iD, *])
    | (apply AW_cond; (case hc => (simp only [push_cast, reduceIte, nA, nB, nC, reduceCtorEq, nD, nE, nF, nG, iA, iB, iC, iD]; rfl)); all_goals (intro hc; first | (exfalso; simp only [push_cast, reduceIte, nA, nB, nC, reduceCtorEq, nD, nE, nF, nG, iA, iB, iC, iD, *] at hc; done) | (exact absurd hc (by decide)) | (with_reducible (have hcc : true = true := hc); clear hcc hc) | (with_reducible (have hcc : false = false := hc); clear hcc hc) | ((try simp only [Bool.not_true, Bool.not_false] at hc); (first | (with_reducible (have hcc : true = true := hc); clear hcc hc) | (with_reducible (have hcc : false = false := hc); clear hcc hc) | (have hp := hc; (try simp only [decide_eq_true_eq, decide_eq_false_iff_not, bA, bB, bC, bD, bE, bF, bG, bH] at hp))))))
    | (refine Kn.go hK ?_; clear hK K)
    | refine Kn.go (by assumption) ?_
    | (intro n hn; (try simp only [upd_none2, join_none_iff, ite_none, ne_eq] at hn); (try simp only [push_cast, reduceIte, nA, nB, nC, reduceCtorEq, nD, nE, nF, nG, iA, iB, iC, iD, *]))
    | (intro hc)
    | (apply ER_blk; (case hp => rfl); (case hb => (simp only [push_cast, reduceIte, nA, nB, nC, reduceCtorEq, nD, nE, nF, nG, iA, iB, iC, iD]; rfl)); (case hd => (simp only [push_cast, reduceIte, nA, nB, nC, reduceCtorEq, nD, nE, nF, nG, iA, iB, iC, iD]; done)); (case h => (intro hc; simp only [push_cast, reduceIte, nA, nB, nC, reduceCtorEq, nD, nE, nF, nG, iA, iB, iC, iD, *]; rfl)); simp only [push_cast, reduceIte, nA, nB, nC, reduceCtorEq, nD, nE, nF, nG, iA, iB, iC, iD, *])
    | (apply ER_guard; (case hb => (simp only [push_cast, reduceIte, nA, nB, nC, reduceCtorEq, nD, nE, nF, nG, iA, iB, iC, iD]; rfl)); all_goals ((intro hc; first | (exfalso; simp only [push_cast, reduceIte, nA, nB, nC, reduceCtorEq, nD, nE, nF, nG, iA, iB, iC, iD, *] at hc; done) | (exact absurd hc (by decide)) | (with_reducible (have hcc : true = true := hc); clear hcc hc) | (with_reducible (have hcc : false = false := hc); clear hcc hc) | ((try simp only [Bool.not_true, Bool.not_false] at hc); (first | (with_reducible (have hcc : true = true := hc); clear hcc hc) | (with_reducible (have hcc : false = false := hc); clear hcc hc) | (have hp := hc; (try simp only [decide_eq_true_eq, decide_eq_false_iff_not, bA, bB, bC, bD, bE, bF, bG, bH] at hp))))) <;> try simp only [push_cast, reduceIte, nA, nB, nC, reduceCtorEq, nD, nE, nF, nG, iA, iB, iC, iD, *]))
    | fail)
    exact zero _ _ (by (simp only [push_cast, reduceIte, nA, nB, nC, reduceCtorEq, nD, nE, nF, nG, iA, iB, iC, iD, *])) hE (by omega)
  | some q =>
    have hkl : ¬ (l.length : Int) ≤ (k : Int) := by have := (List.getElem?_eq_some_iff.1 hk).1; omega
    have hklt : (k : Int) < (l.length : Int) := by omega
    have hr := gOk_rows hok hk
    have h4 := rightQ_len hr
    have hgl := gOk_len hok
    obtain ⟨ql, qla, qhe, qen⟩ := q
    simp only at h4
    have h4m : ql.length ≤ maxLen := by unfold maxLen; omega
    cases hel : elOk e
    · have hE : pushE ⟨l, nu, dn⟩ (k : Int) e = 151 := by simp [pushE, hok, hk, hel]
      replace hE := Lib.hid hE
      refine ACall_of' Try.func12 rfl (Ent_of Try.func12 (by kernel_rfl) rfl) (by simp [Try.ntmps12]) ?_; simp only [Try.ntmps12, Try.results12]
      simp only [Gt.av]
      repeat' (first
    | refine AW_seq_kn fun K hK => ?_
    | refine AW_block ?_
    | (refine does_call rfl rfl ?_; simp only [push_cast, reduceIte, nA, nB, nC, reduceCtorEq, nD, nE, nF, nG, iA, iB, iC, iD, *]; refine ACall.mono (checkElem_p _ _) ?_; (rintro _ _ ⟨rfl, e2⟩; have e3 := e2.symm; clear e2; subst e3); (try simp only [push_cast, reduceIte, nA, nB, nC, reduceCtorEq, nD, nE, nF, nG, iA, iB, iC, iD, *]))
    | (refine does_call rfl rfl ?_; simp only [push_cast, reduceIte, nA, nB, nC, reduceCtorEq, nD, nE, nF, nG, iA, iB, iC, iD, *]; refine ACall.mono (check15_p ⟨_, _, _⟩ (by assumption) _) ?_; (rintro _ _ ⟨rfl, e2⟩; have e3 := e2.symm; clear e2; subst e3); (try simp only [push_cast, reduceIte, nA, nB, nC, reduceCtorEq, nD, nE, nF, nG, iA, iB, iC, iD, *]))
    | (refine does_call rfl rfl ?_; simp only [push_cast, reduceIte, nA, nB, nC, reduceCtorEq, nD, nE, nF, nG, iA, iB, iC, iD, *]; refine ACall.mono (ends_p ⟨_, _, _, _⟩ (by assumption) _) ?_; (rintro _ _ ⟨rfl, e2⟩; have e3 := e2.symm; clear e2; subst e3); (try simp only [push_cast, reduceIte, nA, nB, nC, reduceCtorEq, nD, nE, nF, nG, iA, iB, iC, iD, *]))
    | ((first
      | refine AW_region_draw (id := 14) E1 (fun f => [].contains f) [(0, false, []), (1, false, []), (3, true, []), (2, false, [3, 4]), (4, false, []), (5, false, []), (6, false, []), (7, false, [])] [[], [0], [0, 1], [], [3], [0, 1, 2, 3, 4], [0, 1, 2, 3, 4, 5], [0, 1, 2, 3, 4, 5, 6]] mixed (by kernel_rfl) ?_
      | refine AW_region E1 ?_ | refine AW_ret ?_ | refine AW_exit ?_ | refine AW_skip ?_ | unfold retQ); try simp only [push_cast, reduceIte, nA, nB, nC, reduceCtorEq, nD, nE, nF, nG, iA, iB, iC, iD, *])
    | (apply AW_cond; (case hc => (simp only [push_cast, reduceIte, nA, nB, nC, reduceCtorEq, nD, nE, nF, nG, iA, iB, iC, iD]; rfl)); all_goals (intro hc; first | (exfalso; simp only [push_cast, reduceIte, nA, nB, nC, reduceCtorEq, nD, nE, nF, nG, iA, iB, iC, iD, *] at hc; done) | (exact absurd hc (by decide)) | (with_reducible (have hcc : true = true := hc); clear hcc hc) | (with_reducible (have hcc : false = false := hc); clear hcc hc) | ((try simp only [Bool.not_true, Bool.not_false] at hc); (first | (with_reducible (have hcc : true = true := hc); clear hcc hc) | (with_reducible (have hcc : false = false := hc); clear hcc hc) | (have hp := hc; (try simp only [decide_eq_true_eq, decide_eq_false_iff_not, bA, bB, bC, bD, bE, bF, bG, bH] at hp))))))
    | (refine Kn.go hK ?_; clear hK K)
    | refine Kn.go (by assumption) ?_
    | (intro n hn; (try simp only [upd_none2, join_none_iff, ite_none, ne_eq] at hn); (try simp only [push_cast, reduceIte, nA, nB, nC, reduceCtorEq, nD, nE, nF, nG, iA, iB, iC, iD, *]))
    | (intro hc)
    | (apply ER_blk; (case hp => rfl); (case hb => (simp only [push_cast, reduceIte, nA, nB, nC, reduceCtorEq, nD, nE, nF, nG, iA, iB, iC, iD]; rfl)); (case hd => (simp only [push_cast, reduceIte, nA, nB, nC, reduceCtorEq, nD, nE, nF, nG, iA, iB, iC, iD]; done)); (case h => (intro hc; simp only [push_cast, reduceIte, nA, nB, nC, reduceCtorEq, nD, nE, nF, nG, iA, iB, iC, iD, *]; rfl)); simp only [push_cast, reduceIte, nA, nB, nC, reduceCtorEq, nD, nE, nF, nG, iA, iB, iC, iD, *])
    | (apply ER_guard; (case hb => (simp only [push_cast, reduceIte, nA, nB, nC, reduceCtorEq, nD, nE, nF, nG, iA, iB, iC, iD]; rfl)); all_goals ((intro hc; first | (exfalso; simp only [push_cast, reduceIte, nA, nB, nC, reduceCtorEq, nD, nE, nF, nG, iA, iB, iC, iD, *] at hc; done) | (exact absurd hc (by decide)) | (with_reducible (have hcc : true = true := hc); clear hcc hc) | (with_reducible (have hcc : false = false := hc); clear hcc hc) | ((try simp only [Bool.not_true, Bool.not_false] at hc); (first | (with_reducible (have hcc : true = true := hc); clear hcc hc) | (with_reducible (have hcc : false = false := hc); clear hcc hc) | (have hp := hc; (try simp only [decide_eq_true_eq, decide_eq_false_iff_not, bA, bB, bC, bD, bE, bF, bG, bH] at hp))))) <;> try simp only [push_cast, reduceIte, nA, nB, nC, reduceCtorEq, nD, nE, nF, nG, iA, iB, iC, iD, *]))
    | fail)
      exact zero _ _ (by (simp only [push_cast, reduceIte, nA, nB, nC, reduceCtorEq, nD, nE, nF, nG, iA, iB, iC, iD, *])) hE (by omega)
    have hll : lateS ⟨ql, qla, qhe, qen⟩ e = (closedS ⟨ql, qla, qhe, qen⟩ || (decide (e.kd = 2) && decide (e.n ≤ qla))) := rfl
    cases hlate : lateS ⟨ql, qla, qhe, qen⟩ e
    rotate_left
    · have hE : pushE ⟨l, nu, dn⟩ (k : Int) e = 2 := by simp [pushE, hok, hk, hel, hlate]
      replace hE := Lib.hid hE
      rw [hlate] at hll
      clear hlate
      cases hcl : closedS ⟨ql, qla, qhe, qen⟩
      · rw [hcl, Bool.false_or] at hll
        have hk2 : e.kd = 2 := by simp at hll; exact hll.1
        have hk3 : e.n ≤ qla := by simp at hll; exact hll.2
        have hkT : (e.kd = 2) = True := by simp [hk2]
        clear hll hk2
        refine ACall_of' Try.func12 rfl (Ent_of Try.func12 (by kernel_rfl) rfl) (by simp [Try.ntmps12]) ?_; simp only [Try.ntmps12, Try.results12]
        simp only [Gt.av]
        repeat' (first
    | refine AW_seq_kn fun K hK => ?_
    | refine AW_block ?_
    | (refine does_call rfl rfl ?_; simp only [push_cast, reduceIte, nA, nB, nC, reduceCtorEq, nD, nE, nF, nG, iA, iB, iC, iD, *]; refine ACall.mono (checkElem_p _ _) ?_; (rintro _ _ ⟨rfl, e2⟩; have e3 := e2.symm; clear e2; subst e3); (try simp only [push_cast, reduceIte, nA, nB, nC, reduceCtorEq, nD, nE, nF, nG, iA, iB, iC, iD, *]))
    | (refine does_call rfl rfl ?_; simp only [push_cast, reduceIte, nA, nB, nC, reduceCtorEq, nD, nE, nF, nG, iA, iB, iC, iD, *]; refine ACall.mono (check15_p ⟨_, _, _⟩ (by assumption) _) ?_; (rintro _ _ ⟨rfl, e2⟩; have e3 := e2.symm; clear e2; subst e3); (try simp only [push_cast, reduceIte, nA, nB, nC, reduceCtorEq, nD, nE, nF, nG, iA, iB, iC, iD, *]))
    | (refine does_call rfl rfl ?_; simp only [push_cast, reduceIte, nA, nB, nC, reduceCtorEq, nD, nE, nF, nG, iA, iB, iC, iD, *]; refine ACall.mono (ends_p ⟨_, _, _, _⟩ (by assumption) _) ?_; (rintro _ _ ⟨rfl, e2⟩; have e3 := e2.symm; clear e2; subst e3); (try simp only [push_cast, reduceIte, nA, nB, nC, reduceCtorEq, nD, nE, nF, nG, iA, iB, iC, iD, *]))
    | ((first
      | refine AW_region_draw (id := 14) E1 (fun f => [].contains f) [(0, false, []), (1, false, []), (3, true, []), (2, false, [3, 4]), (4, false, []), (5, false, []), (6, false, []), (7, false, [])] [[], [0], [0, 1], [], [3], [0, 1, 2, 3, 4], [0, 1, 2, 3, 4, 5], [0, 1, 2, 3, 4, 5, 6]] mixed (by kernel_rfl) ?_
      | refine AW_region E1 ?_ | refine AW_ret ?_ | refine AW_exit ?_ | refine AW_skip ?_ | unfold retQ); try simp only [push_cast, reduceIte, nA, nB, nC, reduceCtorEq, nD, nE, nF, nG, iA, iB, iC, iD, *])
    | (apply AW_cond; (case hc => (simp only [push_cast, reduceIte, nA, nB, nC, reduceCtorEq, nD, nE, nF, nG, iA, iB, iC, iD]; rfl)); all_goals (intro hc; first | (exfalso; simp only [push_cast, reduceIte, nA, nB, nC, reduceCtorEq, nD, nE, nF, nG, iA, iB, iC, iD, *] at hc; done) | (exact absurd hc (by decide)) | (with_reducible (have hcc : true = true := hc); clear hcc hc) | (with_reducible (have hcc : false = false := hc); clear hcc hc) | ((try simp only [Bool.not_true, Bool.not_false] at hc); (first | (with_reducible (have hcc : true = true := hc); clear hcc hc) | (with_reducible (have hcc : false = false := hc); clear hcc hc) | (have hp := hc; (try simp only [decide_eq_true_eq, decide_eq_false_iff_not, bA, bB, bC, bD, bE, bF, bG, bH] at hp))))))
    | (refine Kn.go hK ?_; clear hK K)
    | refine Kn.go (by assumption) ?_
    | (intro n hn; (try simp only [upd_none2, join_none_iff, ite_none, ne_eq] at hn); (try simp only [push_cast, reduceIte, nA, nB, nC, reduceCtorEq, nD, nE, nF, nG, iA, iB, iC, iD, *]))
    | (intro hc)
    | (apply ER_blk; (case hp => rfl); (case hb => (simp only [push_cast, reduceIte, nA, nB, nC, reduceCtorEq, nD, nE, nF, nG, iA, iB, iC, iD]; rfl)); (case hd => (simp only [push_cast, reduceIte, nA, nB, nC, reduceCtorEq, nD, nE, nF, nG, iA, iB, iC, iD]; done)); (case h => (intro hc; simp only [push_cast, reduceIte, nA, nB, nC, reduceCtorEq, nD, nE, nF, nG, iA, iB, iC, iD, *]; rfl)); simp only [push_cast, reduceIte, nA, nB, nC, reduceCtorEq, nD, nE, nF, nG, iA, iB, iC, iD, *])
    | (apply ER_guard; (case hb => (simp only [push_cast, reduceIte, nA, nB, nC, reduceCtorEq, nD, nE, nF, nG, iA, iB, iC, iD]; rfl)); all_goals ((intro hc; first | (exfalso; simp only [push_cast, reduceIte, nA, nB, nC, reduceCtorEq, nD, nE, nF, nG, iA, iB, iC, iD, *] at hc; done) | (exact absurd hc (by decide)) | (with_reducible (have hcc : true = true := hc); clear hcc hc) | (with_reducible (have hcc : false = false := hc); clear hcc hc) | ((try simp only [Bool.not_true, Bool.not_false] at hc); (first | (with_reducible (have hcc : true = true := hc); clear hcc hc) | (with_reducible (have hcc : false = false := hc); clear hcc hc) | (have hp := hc; (try simp only [decide_eq_true_eq, decide_eq_false_iff_not, bA, bB, bC, bD, bE, bF, bG, bH] at hp))))) <;> try simp only [push_cast, reduceIte, nA, nB, nC, reduceCtorEq, nD, nE, nF, nG, iA, iB, iC, iD, *]))
    | fail)
        all_goals exact zero _ _ (by (simp only [push_cast, reduceIte, nA, nB, nC, reduceCtorEq, nD, nE, nF, nG, iA, iB, iC, iD, *])) hE (by omega)
      · clear hll
        refine ACall_of' Try.func12 rfl (Ent_of Try.func12 (by kernel_rfl) rfl) (by simp [Try.ntmps12]) ?_; simp only [Try.ntmps12, Try.results12]
        simp only [Gt.av]
        repeat' (first
    | refine AW_seq_kn fun K hK => ?_
    | refine AW_block ?_
    | (refine does_call rfl rfl ?_; simp only [push_cast, reduceIte, nA, nB, nC, reduceCtorEq, nD, nE, nF, nG, iA, iB, iC, iD, *]; refine ACall.mono (checkElem_p _ _) ?_; (rintro _ _ ⟨rfl, e2⟩; have e3 := e2.symm; clear e2; subst e3); (try simp only [push_cast, reduceIte, nA, nB, nC, reduceCtorEq, nD, nE, nF, nG, iA, iB, iC, iD, *]))
    | (refine does_call rfl rfl ?_; simp only [push_cast, reduceIte, nA, nB, nC, reduceCtorEq, nD, nE, nF, nG, iA, iB, iC, iD, *]; refine ACall.mono (check15_p ⟨_, _, _⟩ (by assumption) _) ?_; (rintro _ _ ⟨rfl, e2⟩; have e3 := e2.symm; clear e2; subst e3); (try simp only [push_cast, reduceIte, nA, nB, nC, reduceCtorEq, nD, nE, nF, nG, iA, iB, iC, iD, *]))
    | (refine does_call rfl rfl ?_; simp only [push_cast, reduceIte, nA, nB, nC, reduceCtorEq, nD, nE, nF, nG, iA, iB, iC, iD, *]; refine ACall.mono (ends_p ⟨_, _, _, _⟩ (by assumption) _) ?_; (rintro _ _ ⟨rfl, e2⟩; have e3 := e2.symm; clear e2; subst e3); (try simp only [push_cast, reduceIte, nA, nB, nC, reduceCtorEq, nD, nE, nF, nG, iA, iB, iC, iD, *]))
    | ((first
      | refine AW_region_draw (id := 14) E1 (fun f => [].contains f) [(0, false, []), (1, false, []), (3, true, []), (2, false, [3, 4]), (4, false, []), (5, false, []), (6, false, []), (7, false, [])] [[], [0], [0, 1], [], [3], [0, 1, 2, 3, 4], [0, 1, 2, 3, 4, 5], [0, 1, 2, 3, 4, 5, 6]] mixed (by kernel_rfl) ?_
      | refine AW_region E1 ?_ | refine AW_ret ?_ | refine AW_exit ?_ | refine AW_skip ?_ | unfold retQ); try simp only [push_cast, reduceIte, nA, nB, nC, reduceCtorEq, nD, nE, nF, nG, iA, iB, iC, iD, *])
    | (apply AW_cond; (case hc => (simp only [push_cast, reduceIte, nA, nB, nC, reduceCtorEq, nD, nE, nF, nG, iA, iB, iC, iD]; rfl)); all_goals (intro hc; first | (exfalso; simp only [push_cast, reduceIte, nA, nB, nC, reduceCtorEq, nD, nE, nF, nG, iA, iB, iC, iD, *] at hc; done) | (exact absurd hc (by decide)) | (with_reducible (have hcc : true = true := hc); clear hcc hc) | (with_reducible (have hcc : false = false := hc); clear hcc hc) | ((try simp only [Bool.not_true, Bool.not_false] at hc); (first | (with_reducible (have hcc : true = true := hc); clear hcc hc) | (with_reducible (have hcc : false = false := hc); clear hcc hc) | (have hp := hc; (try simp only [decide_eq_true_eq, decide_eq_false_iff_not, bA, bB, bC, bD, bE, bF, bG, bH] at hp))))))
    | (refine Kn.go hK ?_; clear hK K)
    | refine Kn.go (by assumption) ?_
    | (intro n hn; (try simp only [upd_none2, join_none_iff, ite_none, ne_eq] at hn); (try simp only [push_cast, reduceIte, nA, nB, nC, reduceCtorEq, nD, nE, nF, nG, iA, iB, iC, iD, *]))
    | (intro hc)
    | (apply ER_blk; (case hp => rfl); (case hb => (simp only [push_cast, reduceIte, nA, nB, nC, reduceCtorEq, nD, nE, nF, nG, iA, iB, iC, iD]; rfl)); (case hd => (simp only [push_cast, reduceIte, nA, nB, nC, reduceCtorEq, nD, nE, nF, nG, iA, iB, iC, iD]; done)); (case h => (intro hc; simp only [push_cast, reduceIte, nA, nB, nC, reduceCtorEq, nD, nE, nF, nG, iA, iB, iC, iD, *]; rfl)); simp only [push_cast, reduceIte, nA, nB, nC, reduceCtorEq, nD, nE, nF, nG, iA, iB, iC, iD, *])
    | (apply ER_guard; (case hb => (simp only [push_cast, reduceIte, nA, nB, nC, reduceCtorEq, nD, nE, nF, nG, iA, iB, iC, iD]; rfl)); all_goals ((intro hc; first | (exfalso; simp only [push_cast, reduceIte, nA, nB, nC, reduceCtorEq, nD, nE, nF, nG, iA, iB, iC, iD, *] at hc; done) | (exact absurd hc (by decide)) | (with_reducible (have hcc : true = true := hc); clear hcc hc) | (with_reducible (have hcc : false = false := hc); clear hcc hc) | ((try simp only [Bool.not_true, Bool.not_false] at hc); (first | (with_reducible (have hcc : true = true := hc); clear hcc hc) | (with_reducible (have hcc : false = false := hc); clear hcc hc) | (have hp := hc; (try simp only [decide_eq_true_eq, decide_eq_false_iff_not, bA, bB, bC, bD, bE, bF, bG, bH] at hp))))) <;> try simp only [push_cast, reduceIte, nA, nB, nC, reduceCtorEq, nD, nE, nF, nG, iA, iB, iC, iD, *]))
    | fail)
        all_goals exact zero _ _ (by (simp only [push_cast, reduceIte, nA, nB, nC, reduceCtorEq, nD, nE, nF, nG, iA, iB, iC, iD, *])) hE (by omega)
    rw [hlate] at hll
    have hcl : closedS ⟨ql, qla, qhe, qen⟩ = false := by cases h : closedS ⟨ql, qla, qhe, qen⟩; rfl; rw [h] at hll; cases hll
    by_cases cl4 : ql.length = 4
    · have hE : pushE ⟨l, nu, dn⟩ (k : Int) e = 6 := by simp [pushE, hok, hk, hel, hlate, cl4]
      replace hE := Lib.hid hE
      rw [hcl, Bool.false_or] at hll
      have cl4' : ((ql.length : Int) = 4) = True := by simp [cl4]
      clear hlate cl4 h4
      by_cases hk2 : e.kd = 2
      · have hk3 : ¬ e.n ≤ qla := by simpa [hk2] using hll.symm
        have hkT : (e.kd = 2) = True := by simp [hk2]
        clear hll hk2
        refine ACall_of' Try.func12 rfl (Ent_of Try.func12 (by kernel_rfl) rfl) (by simp [Try.ntmps12]) ?_; simp only [Try.ntmps12, Try.results12]
        simp only [Gt.av]
        repeat' (first
    | refine AW_seq_kn fun K hK => ?_
    | refine AW_block ?_
    | (refine does_call rfl rfl ?_; simp only [push_cast, reduceIte, nA, nB, nC, reduceCtorEq, nD, nE, nF, nG, iA, iB, iC, iD, *]; refine ACall.mono (checkElem_p _ _) ?_; (rintro _ _ ⟨rfl, e2⟩; have e3 := e2.symm; clear e2; subst e3); (try simp only [push_cast, reduceIte, nA, nB, nC, reduceCtorEq, nD, nE, nF, nG, iA, iB, iC, iD, *]))
    | (refine does_call rfl rfl ?_; simp only [push_cast, reduceIte, nA, nB, nC, reduceCtorEq, nD, nE, nF, nG, iA, iB, iC, iD, *]; refine ACall.mono (check15_p ⟨_, _, _⟩ (by assumption) _) ?_; (rintro _ _ ⟨rfl, e2⟩; have e3 := e2.symm; clear e2; subst e3); (try simp only [push_cast, reduceIte, nA, nB, nC, reduceCtorEq, nD, nE, nF, nG, iA, iB, iC, iD, *]))
    | (refine does_call rfl rfl ?_; simp only [push_cast, reduceIte, nA, nB, nC, reduceCtorEq, nD, nE, nF, nG, iA, iB, iC, iD, *]; refine ACall.mono (ends_p ⟨_, _, _, _⟩ (by assumption) _) ?_; (rintro _ _ ⟨rfl, e2⟩; have e3 := e2.symm; clear e2; subst e3); (try simp only [push_cast, reduceIte, nA, nB, nC, reduceCtorEq, nD, nE, nF, nG, iA, iB, iC, iD, *]))
    | ((first
      | refine AW_region_draw (id := 14) E1 (fun f => [].contains f) [(0, false, []), (1, false, []), (3, true, []), (2, false, [3, 4]), (4, false, []), (5, false, []), (6, false, []), (7, false, [])] [[], [0], [0, 1], [], [3], [0, 1, 2, 3, 4], [0, 1, 2, 3, 4, 5], [0, 1, 2, 3, 4, 5, 6]] mixed (by kernel_rfl) ?_
      | refine AW_region E1 ?_ | refine AW_ret ?_ | refine AW_exit ?_ | refine AW_skip ?_ | unfold retQ); try simp only [push_cast, reduceIte, nA, nB, nC, reduceCtorEq, nD, nE, nF, nG, iA, iB, iC, iD, *])
    | (apply AW_cond; (case hc => (simp only [push_cast, reduceIte, nA, nB, nC, reduceCtorEq, nD, nE, nF, nG, iA, iB, iC, iD]; rfl)); all_goals (intro hc; first | (exfalso; simp only [push_cast, reduceIte, nA, nB, nC, reduceCtorEq, nD, nE, nF, nG, iA, iB, iC, iD, *] at hc; done) | (exact absurd hc (by decide)) | (with_reducible (have hcc : true = true := hc); clear hcc hc) | (with_reducible (have hcc : false = false := hc); clear hcc hc) | ((try simp only [Bool.not_true, Bool.not_false] at hc); (first | (with_reducible (have hcc : true = true := hc); clear hcc hc) | (with_reducible (have hcc : false = false := hc); clear hcc hc) | (have hp := hc; (try simp only [decide_eq_true_eq, decide_eq_false_iff_not, bA, bB, bC, bD, bE, bF, bG, bH] at hp))))))
    | (refine Kn.go hK ?_; clear hK K)
    | refine Kn.go (by assumption) ?_
    | (intro n hn; (try simp only [upd_none2, join_none_iff, ite_none, ne_eq] at hn); (try simp only [push_cast, reduceIte, nA, nB, nC, reduceCtorEq, nD, nE, nF, nG, iA, iB, iC, iD, *]))
    | (intro hc)
    | (apply ER_blk; (case hp => rfl); (case hb => (simp only [push_cast, reduceIte, nA, nB, nC, reduceCtorEq, nD, nE, nF, nG, iA, iB, iC, iD]; rfl)); (case hd => (simp only [push_cast, reduceIte, nA, nB, nC, reduceCtorEq, nD, nE, nF, nG, iA, iB, iC, iD]; done)); (case h => (intro hc; simp only [push_cast, reduceIte, nA, nB, nC, reduceCtorEq, nD, nE, nF, nG, iA, iB, iC, iD, *]; rfl)); simp only [push_cast, reduceIte, nA, nB, nC, reduceCtorEq, nD, nE, nF, nG, iA, iB, iC, iD, *])
    | (apply ER_guard; (case hb => (simp only [push_cast, reduceIte, nA, nB, nC, reduceCtorEq, nD, nE, nF, nG, iA, iB, iC, iD]; rfl)); all_goals ((intro hc; first | (exfalso; simp only [push_cast, reduceIte, nA, nB, nC, reduceCtorEq, nD, nE, nF, nG, iA, iB, iC, iD, *] at hc; done) | (exact absurd hc (by decide)) | (with_reducible (have hcc : true = true := hc); clear hcc hc) | (with_reducible (have hcc : false = false := hc); clear hcc hc) | ((try simp only [Bool.not_true, Bool.not_false] at hc); (first | (with_reducible (have hcc : true = true := hc); clear hcc hc) | (with_reducible (have hcc : false = false := hc); clear hcc hc) | (have hp := hc; (try simp only [decide_eq_true_eq, decide_eq_false_iff_not, bA, bB, bC, bD, bE, bF, bG, bH] at hp))))) <;> try simp only [push_cast, reduceIte, nA, nB, nC, reduceCtorEq, nD, nE, nF, nG, iA, iB, iC, iD, *]))
    | fail)
        all_goals exact zero _ _ (by (simp only [push_cast, reduceIte, nA, nB, nC, reduceCtorEq, nD, nE, nF, nG, iA, iB, iC, iD, *])) hE (by omega)
      · clear hll
        refine ACall_of' Try.func12 rfl (Ent_of Try.func12 (by kernel_rfl) rfl) (by simp [Try.ntmps12]) ?_; simp only [Try.ntmps12, Try.results12]
        simp only [Gt.av]
        repeat' (first
    | refine AW_seq_kn fun K hK => ?_
    | refine AW_block ?_
    | (refine does_call rfl rfl ?_; simp only [push_cast, reduceIte, nA, nB, nC, reduceCtorEq, nD, nE, nF, nG, iA, iB, iC, iD, *]; refine ACall.mono (checkElem_p _ _) ?_; (rintro _ _ ⟨rfl, e2⟩; have e3 := e2.symm; clear e2; subst e3); (try simp only [push_cast, reduceIte, nA, nB, nC, reduceCtorEq, nD, nE, nF, nG, iA, iB, iC, iD, *]))
    | (refine does_call rfl rfl ?_; simp only [push_cast, reduceIte, nA, nB, nC, reduceCtorEq, nD, nE, nF, nG, iA, iB, iC, iD, *]; refine ACall.mono (check15_p ⟨_, _, _⟩ (by assumption) _) ?_; (rintro _ _ ⟨rfl, e2⟩; have e3 := e2.symm; clear e2; subst e3); (try simp only [push_cast, reduceIte, nA, nB, nC, reduceCtorEq, nD, nE, nF, nG, iA, iB, iC, iD, *]))
    | (refine does_call rfl rfl ?_; simp only [push_cast, reduceIte, nA, nB, nC, reduceCtorEq, nD, nE, nF, nG, iA, iB, iC, iD, *]; refine ACall.mono (ends_p ⟨_, _, _, _⟩ (by assumption) _) ?_; (rintro _ _ ⟨rfl, e2⟩; have e3 := e2.symm; clear e2; subst e3); (try simp only [push_cast, reduceIte, nA, nB, nC, reduceCtorEq, nD, nE, nF, nG, iA, iB, iC, iD, *]))
    | ((first
      | refine AW_region_draw (id := 14) E1 (fun f => [].contains f) [(0, false, []), (1, false, []), (3, true, []), (2, false, [3, 4]), (4, false, []), (5, false, []), (6, false, []), (7, false, [])] [[], [0], [0, 1], [], [3], [0, 1, 2, 3, 4], [0, 1, 2, 3, 4, 5], [0, 1, 2, 3, 4, 5, 6]] mixed (by kernel_rfl) ?_
      | refine AW_region E1 ?_ | refine AW_ret ?_ | refine AW_exit ?_ | refine AW_skip ?_ | unfold retQ); try simp only [push_cast, reduceIte, nA, nB, nC, reduceCtorEq, nD, nE, nF, nG, iA, iB, iC, iD, *])
    | (apply AW_cond; (case hc => (simp only [push_cast, reduceIte, nA, nB, nC, reduceCtorEq, nD, nE, nF, nG, iA, iB, iC, iD]; rfl)); all_goals (intro hc; first | (exfalso; simp only [push_cast, reduceIte, nA, nB, nC, reduceCtorEq, nD, nE, nF, nG, iA, iB, iC, iD, *] at hc; done) | (exact absurd hc (by decide)) | (with_reducible (have hcc : true = true := hc); clear hcc hc) | (with_reducible (have hcc : false = false := hc); clear hcc hc) | ((try simp only [Bool.not_true, Bool.not_false] at hc); (first | (with_reducible (have hcc : true = true := hc); clear hcc hc) | (with_reducible (have hcc : false = false := hc); clear hcc hc) | (have hp := hc; (try simp only [decide_eq_true_eq, decide_eq_false_iff_not, bA, bB, bC, bD, bE, bF, bG, bH] at hp))))))
    | (refine Kn.go hK ?_; clear hK K)
    | refine Kn.go (by assumption) ?_
    | (intro n hn; (try simp only [upd_none2, join_none_iff, ite_none, ne_eq] at hn); (try simp only [push_cast, reduceIte, nA, nB, nC, reduceCtorEq, nD, nE, nF, nG, iA, iB, iC, iD, *]))
    | (intro hc)
    | (apply ER_blk; (case hp => rfl); (case hb => (simp only [push_cast, reduceIte, nA, nB, nC, reduceCtorEq, nD, nE, nF, nG, iA, iB, iC, iD]; rfl)); (case hd => (simp only [push_cast, reduceIte, nA, nB, nC, reduceCtorEq, nD, nE, nF, nG, iA, iB, iC, iD]; done)); (case h => (intro hc; simp only [push_cast, reduceIte, nA, nB, nC, reduceCtorEq, nD, nE, nF, nG, iA, iB, iC, iD, *]; rfl)); simp only [push_cast, reduceIte, nA, nB, nC, reduceCtorEq, nD, nE, nF, nG, iA, iB, iC, iD, *])
    | (apply ER_guard; (case hb => (simp only [push_cast, reduceIte, nA, nB, nC, reduceCtorEq, nD, nE, nF, nG, iA, iB, iC, iD]; rfl)); all_goals ((intro hc; first | (exfalso; simp only [push_cast, reduceIte, nA, nB, nC, reduceCtorEq, nD, nE, nF, nG, iA, iB, iC, iD, *] at hc; done) | (exact absurd hc (by decide)) | (with_reducible (have hcc : true = true := hc); clear hcc hc) | (with_reducible (have hcc : false = false := hc); clear hcc hc) | ((try simp only [Bool.not_true, Bool.not_false] at hc); (first | (with_reducible (have hcc : true = true := hc); clear hcc hc) | (with_reducible (have hcc : false = false := hc); clear hcc hc) | (have hp := hc; (try simp only [decide_eq_true_eq, decide_eq_false_iff_not, bA, bB, bC, bD, bE, bF, bG, bH] at hp))))) <;> try simp only [push_cast, reduceIte, nA, nB, nC, reduceCtorEq, nD, nE, nF, nG, iA, iB, iC, iD, *]))
    | fail)
        all_goals exact zero _ _ (by (simp only [push_cast, reduceIte, nA, nB, nC, reduceCtorEq, nD, nE, nF, nG, iA, iB, iC, iD, *])) hE (by omega)
    · have hE : pushE ⟨l, nu, dn⟩ (k : Int) e = 0 := by simp [pushE, hok, hk, hel, hlate, cl4]
      have hS : pushS ⟨l, nu, dn⟩ (k : Int) e = withS ⟨l, nu, dn⟩ k (pushQ ⟨ql, qla, qhe, qen⟩ e) := by
        unfold pushS; rw [if_pos hE]; simp [hk]
      have hR2 : R = AV.t [.g (Gt.av (withS ⟨l, nu, dn⟩ k (pushQ ⟨ql, qla, qhe, qen⟩ e))), .c (.int .i64 0)] := by rw [← hS, ← hE]; exact hR
      replace hR2 := Lib.hid hR2
      clear hR hE hS zero
      rw [hcl, Bool.false_or] at hll
      have cl4' : ¬ (ql.length : Int) = 4 := by omega
      exact (push_ok l nu dn k ql qla qhe qen e H hg hs hok c0 hk hkl hklt h4 h4m hel hcl cl4' (by
        by_cases c : e.kd = 2
        · exact .inr ⟨c, by simpa [c] using hll.symm⟩
        · exact .inl c)).mono fun r H' h => ⟨by rw [h.1, show R = _ from hR2], h.2⟩
end Go.Proofs.Ytcmpciciodcddaa
