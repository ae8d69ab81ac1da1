/- Walks: an element is taken, or it is refused. -/
import Derived.Test.YtcmpciciodcddaaO
namespace Go.Proofs.Ytcmpciciodcddaa
open Go.RowKit
open Nat renaming reduceEqDiff → nA, reduceLT → nB, reduceLeDiff → nC, reduceAdd → nD, reduceMul → nE, reduceSub → nF, reduceBEq → nG
open Int renaming reduceToNat → iA, reduceLT → iB, reduceLE → iC, reduceEq → iD
open Bool renaming and_eq_true → bA, or_eq_true → bB, or_eq_false_iff → bC, and_eq_false_iff → bD, not_eq_true' → bE, not_eq_false' → bF, not_true → bG, not_false → bH
set_option linter.all false
set_option maxHeartbeats 4000000
attribute [local irreducible] AW Does

def takE (g : Gt) (n : Int) : Int :=
  if gOk g = true then (if n < 0 then 2 else match g.qs[n.toNat]? with
    | none => 2
    | some q => if openQ q = true then 0 else 2) else 250
structure Tr where
  t : Tk
  no : Int
def noTk : Tk := ⟨zGt, noEl, false⟩
def takS (g : Gt) (n : Int) : Tk := if takE g n = 0 then match g.qs[n.toNat]? with
  | none => noTk
  | some q => match q.el[0]? with
    | none => noTk
    | some e => takG g n.toNat q e else noTk
def takR (g : Gt) (n : Int) : AV := .t [.g (Gt.av (takS g n).g), .g (El.av (takS g n).e), .c (.bool (takS g n).b), .c (.int .i64 (takE g n))]
theorem takR_no (g : Gt) (n : Int) (G H : Heap) (er : Int) (hle : Heap.le H G) (he : takE g n = er) (h0 : er ≠ 0) : ∃ r2 H2, Weak (.t [.g [.c (.slice none 0 0), .c (.int .u64 0), .c (.int .u64 0)], .g [.c (.int .i64 0), .c (.int .i64 0), .c (.int .i64 0), .c (.int .i64 0), .c (.int .u64 0)], .c (.bool false), .c (.int .i64 er)]) G r2 H2 ∧ r2 = takR g n ∧ H2 = H := by
  have e1 : takS g n = noTk := by unfold takS; rw [if_neg (by rw [he]; exact h0)]
  unfold takR
  rw [e1, he]
  refine ⟨.t [.g [.l 4 [], .c (.int .u64 0), .c (.int .u64 0)], .g (El.av noEl), .c (.bool false), .c (.int .i64 er)], H, Weak.imp ?_ hle, rfl, rfl⟩
  simp only [El.av, noEl]
  (intros; repeat (first | assumption | exact Imp.refl (Mem.le.refl _) _ | exact Imp.refl (by assumption) _ | exact Imp.nil_l _ | refine Imp.t ?_ | refine Imp.g ?_ | exact Imps.nil | refine Imps.cons ?_ (by intro hh; first | rfl | (cases hh; done)) ?_))
theorem openQ_some {q : Qu} (h : openQ q = true) : ∃ e, q.el[0]? = some e := by
  simp [openQ] at h
  cases hq : q.el with
  | nil => rw [hq] at h; simp at h
  | cons e r => exact ⟨e, rfl⟩
theorem takR_ok {g : Gt} {k : Nat} {q : Qu} {e : El} (hok : gOk g = true) (hk : g.qs[k]? = some q) (ho : openQ q = true) (he : q.el[0]? = some e) : takR g (k : Int) = Tk.av (takG g k q e) := by
  have h0 : takE g (k : Int) = 0 := by simp [takE, hok, hk, ho]
  have h1 : takS g (k : Int) = takG g k q e := by unfold takS; rw [if_pos h0]; simp [hk, he]
  unfold takR; rw [h1, h0]; rfl
theorem rightQ_el {q : Qu} (h : rightQ q = true) {j : Nat} {e : El} (he : q.el[j]? = some e) : elOk e = true := by
  have := rightQ_row h
  simp only [rowS, Bool.and_eq_true] at this
  exact List.all_eq_true.1 this.1 e (List.mem_of_getElem? he)
theorem take_p (g : Gt) (n : Int) (hg : Lens g) (hs : g.qs.length ≤ 1000) : Pure Try.prog 18 [.g (Gt.av g), .c (.int .i64 n)] (takR g n) := by
  intro H
  have zero := takR_no g n
  obtain ⟨R, hR⟩ : ∃ R, R = takR g n := ⟨_, rfl⟩
  rw [← hR] at zero ⊢
  replace zero := Lib.hid zero
  replace hR := Lib.hid hR
  obtain ⟨l, nu, dn⟩ := g
  simp only at hs
  cases hok : gOk ⟨l, nu, dn⟩
  · have hE : takE ⟨l, nu, dn⟩ n = 250 := by simp [takE, hok]
    replace hE := Lib.hid hE
    refine ACall_of' Try.func18 rfl (Ent_of Try.func18 (by kernel_rfl) rfl) (by simp [Try.ntmps18]) ?_; simp only [Try.ntmps18, Try.results18]
    simp only [Gt.av]
    repeat' (first
    | refine AW_seq_kn fun K hK => ?_
    | refine AW_block ?_
    | (refine does_call rfl rfl ?_; simp only [push_cast, reduceIte, nA, nB, nC, reduceCtorEq, nD, nE, nF, nG, iA, iB, iC, iD, *]; refine ACall.mono (open_p ⟨_, _, _, _⟩ _) ?_; (rintro _ _ ⟨rfl, e2⟩; have e3 := e2.symm; clear e2; subst e3); (try simp only [push_cast, reduceIte, nA, nB, nC, reduceCtorEq, nD, nE, nF, nG, iA, iB, iC, iD, *]))
    | (refine does_call rfl rfl ?_; simp only [push_cast, reduceIte, nA, nB, nC, reduceCtorEq, nD, nE, nF, nG, iA, iB, iC, iD, *]; refine ACall.mono (open_p _ _) ?_; (rintro _ _ ⟨rfl, e2⟩; have e3 := e2.symm; clear e2; subst e3); (try simp only [push_cast, reduceIte, nA, nB, nC, reduceCtorEq, nD, nE, nF, nG, iA, iB, iC, iD, *]))
    | (refine does_call rfl rfl ?_; simp only [push_cast, reduceIte, nA, nB, nC, reduceCtorEq, nD, nE, nF, nG, iA, iB, iC, iD, *]; refine ACall.mono (check15_p ⟨_, _, _⟩ (by assumption) _) ?_; (rintro _ _ ⟨rfl, e2⟩; have e3 := e2.symm; clear e2; subst e3); (try simp only [push_cast, reduceIte, nA, nB, nC, reduceCtorEq, nD, nE, nF, nG, iA, iB, iC, iD, *]))
    | (refine does_call rfl rfl ?_; simp only [push_cast, reduceIte, nA, nB, nC, reduceCtorEq, nD, nE, nF, nG, iA, iB, iC, iD, *]; refine ACall.mono (clone_p _ (by omega) _) ?_; (rintro _ _ ⟨rfl, e2⟩; have e3 := e2.symm; clear e2; subst e3); (try simp only [push_cast, reduceIte, nA, nB, nC, reduceCtorEq, nD, nE, nF, nG, iA, iB, iC, iD, *]))
    | ((first
      | refine AW_region_draw (id := 12) E1 (fun f => [].contains f) [(0, false, []), (1, true, []), (2, false, [1]), (3, false, []), (4, false, []), (5, false, [])] [[], [], [0], [0, 1, 2], [0, 1, 2, 3], [0, 1, 2, 3, 4]] mixed (by kernel_rfl) ?_
      | refine AW_region_draw (id := 18) E1 (fun f => [].contains f) [(0, false, []), (1, true, []), (2, false, []), (3, false, [1]), (4, false, []), (5, false, []), (6, false, [])] [[], [], [], [0], [0, 1, 3], [0, 1, 2, 3, 4], [0, 1, 2, 3, 4, 5]] mixed (by kernel_rfl) ?_
      | refine AW_region E1 ?_ | refine AW_ret ?_ | refine AW_exit ?_ | refine AW_skip ?_ | unfold retQ); try simp only [push_cast, reduceIte, nA, nB, nC, reduceCtorEq, nD, nE, nF, nG, iA, iB, iC, iD, *])
    | (apply AW_cond; (case hc => (simp only [push_cast, reduceIte, nA, nB, nC, reduceCtorEq, nD, nE, nF, nG, iA, iB, iC, iD]; rfl)); all_goals (intro hc; first | (exfalso; simp only [push_cast, reduceIte, nA, nB, nC, reduceCtorEq, nD, nE, nF, nG, iA, iB, iC, iD, *] at hc; done) | (exact absurd hc (by decide)) | (with_reducible (have hcc : true = true := hc); clear hcc hc) | (with_reducible (have hcc : false = false := hc); clear hcc hc) | ((try simp only [Bool.not_true, Bool.not_false] at hc); (first | (with_reducible (have hcc : true = true := hc); clear hcc hc) | (with_reducible (have hcc : false = false := hc); clear hcc hc) | (have hp := hc; (try simp only [decide_eq_true_eq, decide_eq_false_iff_not, bA, bB, bC, bD, bE, bF, bG, bH] at hp))))))
    | (refine Kn.go hK ?_; clear hK K)
    | refine Kn.go (by assumption) ?_
    | (intro n hn; (try simp only [upd_none2, join_none_iff, ite_none, ne_eq] at hn); (try simp only [push_cast, reduceIte, nA, nB, nC, reduceCtorEq, nD, nE, nF, nG, iA, iB, iC, iD, *]))
    | (intro hc)
    | (apply ER_blk; (case hp => rfl); (case hb => (simp only [push_cast, reduceIte, nA, nB, nC, reduceCtorEq, nD, nE, nF, nG, iA, iB, iC, iD]; rfl)); (case hd => (simp only [push_cast, reduceIte, nA, nB, nC, reduceCtorEq, nD, nE, nF, nG, iA, iB, iC, iD]; done)); (case h => (intro hc; simp only [push_cast, reduceIte, nA, nB, nC, reduceCtorEq, nD, nE, nF, nG, iA, iB, iC, iD, *]; rfl)); simp only [push_cast, reduceIte, nA, nB, nC, reduceCtorEq, nD, nE, nF, nG, iA, iB, iC, iD, *])
    | (apply ER_guard; (case hb => (simp only [push_cast, reduceIte, nA, nB, nC, reduceCtorEq, nD, nE, nF, nG, iA, iB, iC, iD]; rfl)); all_goals ((intro hc; first | (exfalso; simp only [push_cast, reduceIte, nA, nB, nC, reduceCtorEq, nD, nE, nF, nG, iA, iB, iC, iD, *] at hc; done) | (exact absurd hc (by decide)) | (with_reducible (have hcc : true = true := hc); clear hcc hc) | (with_reducible (have hcc : false = false := hc); clear hcc hc) | ((try simp only [Bool.not_true, Bool.not_false] at hc); (first | (with_reducible (have hcc : true = true := hc); clear hcc hc) | (with_reducible (have hcc : false = false := hc); clear hcc hc) | (have hp := hc; (try simp only [decide_eq_true_eq, decide_eq_false_iff_not, bA, bB, bC, bD, bE, bF, bG, bH] at hp))))) <;> try simp only [push_cast, reduceIte, nA, nB, nC, reduceCtorEq, nD, nE, nF, nG, iA, iB, iC, iD, *]))
    | fail)
    exact unhid zero _ _ _ (by (simp only [push_cast, reduceIte, nA, nB, nC, reduceCtorEq, nD, nE, nF, nG, iA, iB, iC, iD, *])) hE (by omega)
  by_cases c0 : n < 0
  · have hE : takE ⟨l, nu, dn⟩ n = 2 := by simp [takE, hok, c0]
    replace hE := Lib.hid hE
    refine ACall_of' Try.func18 rfl (Ent_of Try.func18 (by kernel_rfl) rfl) (by simp [Try.ntmps18]) ?_; simp only [Try.ntmps18, Try.results18]
    simp only [Gt.av]
    repeat' (first
    | refine AW_seq_kn fun K hK => ?_
    | refine AW_block ?_
    | (refine does_call rfl rfl ?_; simp only [push_cast, reduceIte, nA, nB, nC, reduceCtorEq, nD, nE, nF, nG, iA, iB, iC, iD, *]; refine ACall.mono (open_p ⟨_, _, _, _⟩ _) ?_; (rintro _ _ ⟨rfl, e2⟩; have e3 := e2.symm; clear e2; subst e3); (try simp only [push_cast, reduceIte, nA, nB, nC, reduceCtorEq, nD, nE, nF, nG, iA, iB, iC, iD, *]))
    | (refine does_call rfl rfl ?_; simp only [push_cast, reduceIte, nA, nB, nC, reduceCtorEq, nD, nE, nF, nG, iA, iB, iC, iD, *]; refine ACall.mono (open_p _ _) ?_; (rintro _ _ ⟨rfl, e2⟩; have e3 := e2.symm; clear e2; subst e3); (try simp only [push_cast, reduceIte, nA, nB, nC, reduceCtorEq, nD, nE, nF, nG, iA, iB, iC, iD, *]))
    | (refine does_call rfl rfl ?_; simp only [push_cast, reduceIte, nA, nB, nC, reduceCtorEq, nD, nE, nF, nG, iA, iB, iC, iD, *]; refine ACall.mono (check15_p ⟨_, _, _⟩ (by assumption) _) ?_; (rintro _ _ ⟨rfl, e2⟩; have e3 := e2.symm; clear e2; subst e3); (try simp only [push_cast, reduceIte, nA, nB, nC, reduceCtorEq, nD, nE, nF, nG, iA, iB, iC, iD, *]))
    | (refine does_call rfl rfl ?_; simp only [push_cast, reduceIte, nA, nB, nC, reduceCtorEq, nD, nE, nF, nG, iA, iB, iC, iD, *]; refine ACall.mono (clone_p _ (by omega) _) ?_; (rintro _ _ ⟨rfl, e2⟩; have e3 := e2.symm; clear e2; subst e3); (try simp only [push_cast, reduceIte, nA, nB, nC, reduceCtorEq, nD, nE, nF, nG, iA, iB, iC, iD, *]))
    | ((first
      | refine AW_region_draw (id := 12) E1 (fun f => [].contains f) [(0, false, []), (1, true, []), (2, false, [1]), (3, false, []), (4, false, []), (5, false, [])] [[], [], [0], [0, 1, 2], [0, 1, 2, 3], [0, 1, 2, 3, 4]] mixed (by kernel_rfl) ?_
      | refine AW_region_draw (id := 18) E1 (fun f => [].contains f) [(0, false, []), (1, true, []), (2, false, []), (3, false, [1]), (4, false, []), (5, false, []), (6, false, [])] [[], [], [], [0], [0, 1, 3], [0, 1, 2, 3, 4], [0, 1, 2, 3, 4, 5]] mixed (by kernel_rfl) ?_
      | refine AW_region E1 ?_ | refine AW_ret ?_ | refine AW_exit ?_ | refine AW_skip ?_ | unfold retQ); try simp only [push_cast, reduceIte, nA, nB, nC, reduceCtorEq, nD, nE, nF, nG, iA, iB, iC, iD, *])
    | (apply AW_cond; (case hc => (simp only [push_cast, reduceIte, nA, nB, nC, reduceCtorEq, nD, nE, nF, nG, iA, iB, iC, iD]; rfl)); all_goals (intro hc; first | (exfalso; simp only [push_cast, reduceIte, nA, nB, nC, reduceCtorEq, nD, nE, nF, nG, iA, iB, iC, iD, *] at hc; done) | (exact absurd hc (by decide)) | (with_reducible (have hcc : true = true := hc); clear hcc hc) | (with_reducible (have hcc : false = false := hc); clear hcc hc) | ((try simp only [Bool.not_true, Bool.not_false] at hc); (first | (with_reducible (have hcc : true = true := hc); clear hcc hc) | (with_reducible (have hcc : false = false := hc); clear hcc hc) | (have hp := hc; (try simp only [decide_eq_true_eq, decide_eq_false_iff_not, bA, bB, bC, bD, bE, bF, bG, bH] at hp))))))
    | (refine Kn.go hK ?_; clear hK K)
    | refine Kn.go (by assumption) ?_
    | (intro n hn; (try simp only [upd_none2, join_none_iff, ite_none, ne_eq] at hn); (try simp only [push_cast, reduceIte, nA, nB, nC, reduceCtorEq, nD, nE, nF, nG, iA, iB, iC, iD, *]))
    | (intro hc)
    | (apply ER_blk; (case hp => rfl); (case hb => (simp only [push_cast, reduceIte, nA, nB, nC, reduceCtorEq, nD, nE, nF, nG, iA, iB, iC, iD]; rfl)); (case hd => (simp only [push_cast, reduceIte, nA, nB, nC, reduceCtorEq, nD, nE, nF, nG, iA, iB, iC, iD]; done)); (case h => (intro hc; simp only [push_cast, reduceIte, nA, nB, nC, reduceCtorEq, nD, nE, nF, nG, iA, iB, iC, iD, *]; rfl)); simp only [push_cast, reduceIte, nA, nB, nC, reduceCtorEq, nD, nE, nF, nG, iA, iB, iC, iD, *])
    | (apply ER_guard; (case hb => (simp only [push_cast, reduceIte, nA, nB, nC, reduceCtorEq, nD, nE, nF, nG, iA, iB, iC, iD]; rfl)); all_goals ((intro hc; first | (exfalso; simp only [push_cast, reduceIte, nA, nB, nC, reduceCtorEq, nD, nE, nF, nG, iA, iB, iC, iD, *] at hc; done) | (exact absurd hc (by decide)) | (with_reducible (have hcc : true = true := hc); clear hcc hc) | (with_reducible (have hcc : false = false := hc); clear hcc hc) | ((try simp only [Bool.not_true, Bool.not_false] at hc); (first | (with_reducible (have hcc : true = true := hc); clear hcc hc) | (with_reducible (have hcc : false = false := hc); clear hcc hc) | (have hp := hc; (try simp only [decide_eq_true_eq, decide_eq_false_iff_not, bA, bB, bC, bD, bE, bF, bG, bH] at hp))))) <;> try simp only [push_cast, reduceIte, nA, nB, nC, reduceCtorEq, nD, nE, nF, nG, iA, iB, iC, iD, *]))
    | fail)
    exact unhid zero _ _ _ (by (simp only [push_cast, reduceIte, nA, nB, nC, reduceCtorEq, nD, nE, nF, nG, iA, iB, iC, iD, *])) hE (by omega)
  obtain ⟨k, rfl⟩ : ∃ k : Nat, n = (k : Int) := ⟨n.toNat, by omega⟩
  cases hk : l[k]? with
  | none =>
    have hE : takE ⟨l, nu, dn⟩ (k : Int) = 2 := by simp [takE, hok, hk]
    replace hE := Lib.hid hE
    have hge : (l.length : Int) ≤ (k : Int) := by have := List.getElem?_eq_none_iff.1 hk; omega
    clear hk
    refine ACall_of' Try.func18 rfl (Ent_of Try.func18 (by kernel_rfl) rfl) (by simp [Try.ntmps18]) ?_; simp only [Try.ntmps18, Try.results18]
    simp only [Gt.av]
    repeat' (first
    | refine AW_seq_kn fun K hK => ?_
    | refine AW_block ?_
    | (refine does_call rfl rfl ?_; simp only [push_cast, reduceIte, nA, nB, nC, reduceCtorEq, nD, nE, nF, nG, iA, iB, iC, iD, *]; refine ACall.mono (open_p ⟨_, _, _, _⟩ _) ?_; (rintro _ _ ⟨rfl, e2⟩; have e3 := e2.symm; clear e2; subst e3); (try simp only [push_cast, reduceIte, nA, nB, nC, reduceCtorEq, nD, nE, nF, nG, iA, iB, iC, iD, *]))
    | (refine does_call rfl rfl ?_; simp only [push_cast, reduceIte, nA, nB, nC, reduceCtorEq, nD, nE, nF, nG, iA, iB, iC, iD, *]; refine ACall.mono (open_p _ _) ?_; (rintro _ _ ⟨rfl, e2⟩; have e3 := e2.symm; clear e2; subst e3); (try simp only [push_cast, reduceIte, nA, nB, nC, reduceCtorEq, nD, nE, nF, nG, iA, iB, iC, iD, *]))
    | (refine does_call rfl rfl ?_; simp only [push_cast, reduceIte, nA, nB, nC, reduceCtorEq, nD, nE, nF, nG, iA, iB, iC, iD, *]; refine ACall.mono (check15_p ⟨_, _, _⟩ (by assumption) _) ?_; (rintro _ _ ⟨rfl, e2⟩; have e3 := e2.symm; clear e2; subst e3); (try simp only [push_cast, reduceIte, nA, nB, nC, reduceCtorEq, nD, nE, nF, nG, iA, iB, iC, iD, *]))
    | (refine does_call rfl rfl ?_; simp only [push_cast, reduceIte, nA, nB, nC, reduceCtorEq, nD, nE, nF, nG, iA, iB, iC, iD, *]; refine ACall.mono (clone_p _ (by omega) _) ?_; (rintro _ _ ⟨rfl, e2⟩; have e3 := e2.symm; clear e2; subst e3); (try simp only [push_cast, reduceIte, nA, nB, nC, reduceCtorEq, nD, nE, nF, nG, iA, iB, iC, iD, *]))
    | ((first
      | refine AW_region_draw (id := 12) E1 (fun f => [].contains f) [(0, false, []), (1, true, []), (2, false, [1]), (3, false, []), (4, false, []), (5, false, [])] [[], [], [0], [0, 1, 2], [0, 1, 2, 3], [0, 1, 2, 3, 4]] mixed (by kernel_rfl) ?_
      | refine AW_region_draw (id := 18) E1 (fun f => [].contains f) [(0, false, []), (1, true, []), (2, false, []), (3, false, [1]), (4, false, []), (5, false, []), (6, false, [])] [[], [], [], [0], [0, 1, 3], [0, 1, 2, 3, 4], [0, 1, 2, 3, 4, 5]] mixed (by kernel_rfl) ?_
      | refine AW_region E1 ?_ | refine AW_ret ?_ | refine AW_exit ?_ | refine AW_skip ?_ | unfold retQ); try simp only [push_cast, reduceIte, nA, nB, nC, reduceCtorEq, nD, nE, nF, nG, iA, iB, iC, iD, *])
    | (apply AW_cond; (case hc => (simp only [push_cast, reduceIte, nA, nB, nC, reduceCtorEq, nD, nE, nF, nG, iA, iB, iC, iD]; rfl)); all_goals (intro hc; first | (exfalso; simp only [push_cast, reduceIte, nA, nB, nC, reduceCtorEq, nD, nE, nF, nG, iA, iB, iC, iD, *] at hc; done) | (exact absurd hc (by decide)) | (with_reducible (have hcc : true = true := hc); clear hcc hc) | (with_reducible (have hcc : false = false := hc); clear hcc hc) | ((try simp only [Bool.not_true, Bool.not_false] at hc); (first | (with_reducible (have hcc : true = true := hc); clear hcc hc) | (with_reducible (have hcc : false = false := hc); clear hcc hc) | (have hp := hc; (try simp only [decide_eq_true_eq, decide_eq_false_iff_not, bA, bB, bC, bD, bE, bF, bG, bH] at hp))))))
    | (refine Kn.go hK ?_; clear hK K)
    | refine Kn.go (by assumption) ?_
    | (intro n hn; (try simp only [upd_none2, join_none_iff, ite_none, ne_eq] at hn); (try simp only [push_cast, reduceIte, nA, nB, nC, reduceCtorEq, nD, nE, nF, nG, iA, iB, iC, iD, *]))
    | (intro hc)
    | (apply ER_blk; (case hp => rfl); (case hb => (simp only [push_cast, reduceIte, nA, nB, nC, reduceCtorEq, nD, nE, nF, nG, iA, iB, iC, iD]; rfl)); (case hd => (simp only [push_cast, reduceIte, nA, nB, nC, reduceCtorEq, nD, nE, nF, nG, iA, iB, iC, iD]; done)); (case h => (intro hc; simp only [push_cast, reduceIte, nA, nB, nC, reduceCtorEq, nD, nE, nF, nG, iA, iB, iC, iD, *]; rfl)); simp only [push_cast, reduceIte, nA, nB, nC, reduceCtorEq, nD, nE, nF, nG, iA, iB, iC, iD, *])
    | (apply ER_guard; (case hb => (simp only [push_cast, reduceIte, nA, nB, nC, reduceCtorEq, nD, nE, nF, nG, iA, iB, iC, iD]; rfl)); all_goals ((intro hc; first | (exfalso; simp only [push_cast, reduceIte, nA, nB, nC, reduceCtorEq, nD, nE, nF, nG, iA, iB, iC, iD, *] at hc; done) | (exact absurd hc (by decide)) | (with_reducible (have hcc : true = true := hc); clear hcc hc) | (with_reducible (have hcc : false = false := hc); clear hcc hc) | ((try simp only [Bool.not_true, Bool.not_false] at hc); (first | (with_reducible (have hcc : true = true := hc); clear hcc hc) | (with_reducible (have hcc : false = false := hc); clear hcc hc) | (have hp := hc; (try simp only [decide_eq_true_eq, decide_eq_false_iff_not, bA, bB, bC, bD, bE, bF, bG, bH] at hp))))) <;> try simp only [push_cast, reduceIte, nA, nB, nC, reduceCtorEq, nD, nE, nF, nG, iA, iB, iC, iD, *]))
    | fail)
    exact unhid zero _ _ _ (by (simp only [push_cast, reduceIte, nA, nB, nC, reduceCtorEq, nD, nE, nF, nG, iA, iB, iC, iD, *])) hE (by omega)
  | some q =>
    have hkl : ¬ (l.length : Int) ≤ (k : Int) := by have := (List.getElem?_eq_some_iff.1 hk).1; omega
    have hklt : (k : Int) < (l.length : Int) := by omega
    have hr := gOk_rows hok hk
    have h4 := rightQ_len hr
    cases ho : openQ q
    · have hE : takE ⟨l, nu, dn⟩ (k : Int) = 2 := by simp [takE, hok, hk, ho]
      replace hE := Lib.hid hE
      obtain ⟨ql, qla, qhe, qen⟩ := q
      clear h4 hr
      refine ACall_of' Try.func18 rfl (Ent_of Try.func18 (by kernel_rfl) rfl) (by simp [Try.ntmps18]) ?_; simp only [Try.ntmps18, Try.results18]
      simp only [Gt.av]
      repeat' (first
    | refine AW_seq_kn fun K hK => ?_
    | refine AW_block ?_
    | (refine does_call rfl rfl ?_; simp only [push_cast, reduceIte, nA, nB, nC, reduceCtorEq, nD, nE, nF, nG, iA, iB, iC, iD, *]; refine ACall.mono (open_p ⟨_, _, _, _⟩ _) ?_; (rintro _ _ ⟨rfl, e2⟩; have e3 := e2.symm; clear e2; subst e3); (try simp only [push_cast, reduceIte, nA, nB, nC, reduceCtorEq, nD, nE, nF, nG, iA, iB, iC, iD, *]))
    | (refine does_call rfl rfl ?_; simp only [push_cast, reduceIte, nA, nB, nC, reduceCtorEq, nD, nE, nF, nG, iA, iB, iC, iD, *]; refine ACall.mono (open_p _ _) ?_; (rintro _ _ ⟨rfl, e2⟩; have e3 := e2.symm; clear e2; subst e3); (try simp only [push_cast, reduceIte, nA, nB, nC, reduceCtorEq, nD, nE, nF, nG, iA, iB, iC, iD, *]))
    | (refine does_call rfl rfl ?_; simp only [push_cast, reduceIte, nA, nB, nC, reduceCtorEq, nD, nE, nF, nG, iA, iB, iC, iD, *]; refine ACall.mono (check15_p ⟨_, _, _⟩ (by assumption) _) ?_; (rintro _ _ ⟨rfl, e2⟩; have e3 := e2.symm; clear e2; subst e3); (try simp only [push_cast, reduceIte, nA, nB, nC, reduceCtorEq, nD, nE, nF, nG, iA, iB, iC, iD, *]))
    | (refine does_call rfl rfl ?_; simp only [push_cast, reduceIte, nA, nB, nC, reduceCtorEq, nD, nE, nF, nG, iA, iB, iC, iD, *]; refine ACall.mono (clone_p _ (by omega) _) ?_; (rintro _ _ ⟨rfl, e2⟩; have e3 := e2.symm; clear e2; subst e3); (try simp only [push_cast, reduceIte, nA, nB, nC, reduceCtorEq, nD, nE, nF, nG, iA, iB, iC, iD, *]))
    | ((first
      | refine AW_region_draw (id := 12) E1 (fun f => [].contains f) [(0, false, []), (1, true, []), (2, false, [1]), (3, false, []), (4, false, []), (5, false, [])] [[], [], [0], [0, 1, 2], [0, 1, 2, 3], [0, 1, 2, 3, 4]] mixed (by kernel_rfl) ?_
      | refine AW_region_draw (id := 18) E1 (fun f => [].contains f) [(0, false, []), (1, true, []), (2, false, []), (3, false, [1]), (4, false, []), (5, false, []), (6, false, [])] [[], [], [], [0], [0, 1, 3], [0, 1, 2, 3, 4], [0, 1, 2, 3, 4, 5]] mixed (by kernel_rfl) ?_
      | refine AW_region E1 ?_ | refine AW_ret ?_ | refine AW_exit ?_ | refine AW_skip ?_ | unfold retQ); try simp only [push_cast, reduceIte, nA, nB, nC, reduceCtorEq, nD, nE, nF, nG, iA, iB, iC, iD, *])
    | (apply AW_cond; (case hc => (simp only [push_cast, reduceIte, nA, nB, nC, reduceCtorEq, nD, nE, nF, nG, iA, iB, iC, iD]; rfl)); all_goals (intro hc; first | (exfalso; simp only [push_cast, reduceIte, nA, nB, nC, reduceCtorEq, nD, nE, nF, nG, iA, iB, iC, iD, *] at hc; done) | (exact absurd hc (by decide)) | (with_reducible (have hcc : true = true := hc); clear hcc hc) | (with_reducible (have hcc : false = false := hc); clear hcc hc) | ((try simp only [Bool.not_true, Bool.not_false] at hc); (first | (with_reducible (have hcc : true = true := hc); clear hcc hc) | (with_reducible (have hcc : false = false := hc); clear hcc hc) | (have hp := hc; (try simp only [decide_eq_true_eq, decide_eq_false_iff_not, bA, bB, bC, bD, bE, bF, bG, bH] at hp))))))
    | (refine Kn.go hK ?_; clear hK K)
    | refine Kn.go (by assumption) ?_
    | (intro n hn; (try simp only [upd_none2, join_none_iff, ite_none, ne_eq] at hn); (try simp only [push_cast, reduceIte, nA, nB, nC, reduceCtorEq, nD, nE, nF, nG, iA, iB, iC, iD, *]))
    | (intro hc)
    | (apply ER_blk; (case hp => rfl); (case hb => (simp only [push_cast, reduceIte, nA, nB, nC, reduceCtorEq, nD, nE, nF, nG, iA, iB, iC, iD]; rfl)); (case hd => (simp only [push_cast, reduceIte, nA, nB, nC, reduceCtorEq, nD, nE, nF, nG, iA, iB, iC, iD]; done)); (case h => (intro hc; simp only [push_cast, reduceIte, nA, nB, nC, reduceCtorEq, nD, nE, nF, nG, iA, iB, iC, iD, *]; rfl)); simp only [push_cast, reduceIte, nA, nB, nC, reduceCtorEq, nD, nE, nF, nG, iA, iB, iC, iD, *])
    | (apply ER_guard; (case hb => (simp only [push_cast, reduceIte, nA, nB, nC, reduceCtorEq, nD, nE, nF, nG, iA, iB, iC, iD]; rfl)); all_goals ((intro hc; first | (exfalso; simp only [push_cast, reduceIte, nA, nB, nC, reduceCtorEq, nD, nE, nF, nG, iA, iB, iC, iD, *] at hc; done) | (exact absurd hc (by decide)) | (with_reducible (have hcc : true = true := hc); clear hcc hc) | (with_reducible (have hcc : false = false := hc); clear hcc hc) | ((try simp only [Bool.not_true, Bool.not_false] at hc); (first | (with_reducible (have hcc : true = true := hc); clear hcc hc) | (with_reducible (have hcc : false = false := hc); clear hcc hc) | (have hp := hc; (try simp only [decide_eq_true_eq, decide_eq_false_iff_not, bA, bB, bC, bD, bE, bF, bG, bH] at hp))))) <;> try simp only [push_cast, reduceIte, nA, nB, nC, reduceCtorEq, nD, nE, nF, nG, iA, iB, iC, iD, *]))
    | fail)
      exact unhid zero _ _ _ (by (simp only [push_cast, reduceIte, nA, nB, nC, reduceCtorEq, nD, nE, nF, nG, iA, iB, iC, iD, *])) hE (by omega)
    · obtain ⟨e, he⟩ := openQ_some ho
      have hel := rightQ_el hr he
      have hRR := takR_ok hok hk ho he
      have hR2 : R = takR ⟨l, nu, dn⟩ (k : Int) := unhid hR
      rw [hR2, hRR]
      obtain ⟨ql, qla, qhe, qen⟩ := q
      obtain rfl : qhe = false := by simp [openQ] at ho; exact ho.2
      exact take_ok l nu dn k e ql qla qen H hg hs hok (by omega) hk hkl hklt h4 he hel
end Go.Proofs.Ytcmpciciodcddaa
