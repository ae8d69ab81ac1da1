/- Walks: what the document says of Run. -/
import Derived.Test.YtmkncbddjnaklaaI
namespace Go.Proofs.Ytmkncbddjnaklaa
open Go.RowKit
open Nat renaming reduceEqDiff → nA, reduceLT → nB, reduceLeDiff → nC, reduceAdd → nD, reduceMul → nE, reduceSub → nF, reduceBEq → nG
open Int renaming reduceToNat → iA, reduceLT → iB, reduceLE → iC, reduceEq → iD
open Bool renaming and_eq_true → bA, or_eq_true → bB, or_eq_false_iff → bC, and_eq_false_iff → bD, not_eq_true' → bE, not_eq_false' → bF, not_true → bG, not_false → bH
set_option linter.all false
set_option maxHeartbeats 4000000
attribute [local irreducible] AW Does ACall tE tS tB tZ
def dLJ0 : List En := [(0, true, []), (1, false, []), (2, false, []), (3, false, [0]), (4, false, []), (5, false, [])]
def dAJ0 : List (List Nat) := [[], [], [], [1, 2], [0, 1, 2, 3], [0, 1, 2, 3, 4]]
attribute [push_cast] dLJ0

/-- a beginning of a row of values, played -/
structure RI (o : OpD) (c : CellD) (vs : List Int) (k : Nat) (ck : CellD) (ok : List Int) : Prop where
  fl : flowS o c (vs.take k) = (ck, ok, 0)
  b : ck.ok
  g : k = 0 ∨ (aloneS o = true ∧ fitsS o c = true)
  f : aloneS o = true → fitsS o c = true → fitsS o ck = true
theorem RI.zero {o : OpD} {c : CellD} {vs : List Int} (hc : c.ok) : RI o c vs 0 c [] := ⟨by simp [flowS], hc, .inl rfl, fun _ h => h⟩
theorem RI.len {o : OpD} {c : CellD} {vs : List Int} {k : Nat} {ck : CellD} {ok : List Int} (h : RI o c vs k ck ok) : ok.length ≤ vs.length := by
  have h1 := flowS_len o (vs.take k) c
  rw [h.fl] at h1
  simp only [List.length_take] at h1
  omega
theorem RI.bad {o : OpD} {c : CellD} {vs : List Int} {k : Nat} {ck : CellD} {ok : List Int} {v : Int} (h : RI o c vs k ck ok) (hv : vs[k]? = some v) (he : (runS o ck [v]).2.2 ≠ 0) : runS o c vs = (zeroC, [], (runS o ck [v]).2.2) := by
  have hd : ∀ vs c, runS o c vs = if aloneS o = false then (zeroC, [], 180) else if fitsS o c = false then (zeroC, [], 181) else if (flowS o c vs).2.2 ≠ 0 then (zeroC, [], (flowS o c vs).2.2) else ((flowS o c vs).1, (flowS o c vs).2.1, 0) := fun _ _ => rfl
  cases ha : aloneS o
  · rw [hd vs, hd [v], ha]; simp
  cases hf : fitsS o c
  · rcases h.g with h0 | h0
    · subst h0
      have := h.fl
      simp [flowS] at this
      rw [← this.1, hd vs, hd [v], ha, hf]; simp
    · rw [hf] at h0; simp at h0
  have hfk := h.f ha hf
  have hone := runS_one o ck v ha hfk
  rw [hone] at he ⊢
  by_cases hm : ck.count = 9223372036854775807
  · rw [if_pos hm]
    have hfl : flowS o c vs = (ck, ok ++ [], 6) := by
      have h1 := flowS_app o c (vs.take k) (vs.drop k) (by rw [h.fl])
      rw [List.take_append_drop, h.fl, drop_get hv, flowS_full _ _ _ _ hm] at h1
      exact h1
    rw [hd vs, ha, hf, hfl]; simp
  · rw [if_neg hm] at he; exact (he rfl).elim
theorem RI.good {o : OpD} {c : CellD} {vs : List Int} {k : Nat} {ck : CellD} {ok : List Int} {v : Int} (h : RI o c vs k ck ok) (hv : vs[k]? = some v) (hi : i64b v) (he : (runS o ck [v]).2.2 = 0) : RI o c vs (k + 1) (runS o ck [v]).1 (ok ++ (runS o ck [v]).2.1) := by
  have hd : ∀ vs c, runS o c vs = if aloneS o = false then (zeroC, [], 180) else if fitsS o c = false then (zeroC, [], 181) else if (flowS o c vs).2.2 ≠ 0 then (zeroC, [], (flowS o c vs).2.2) else ((flowS o c vs).1, (flowS o c vs).2.1, 0) := fun _ _ => rfl
  cases ha : aloneS o
  · rw [hd [v], ha] at he; simp at he
  cases hfk : fitsS o ck
  · rw [hd [v], ha, hfk] at he; simp at he
  have hf : fitsS o c = true := by
    rcases h.g with h0 | h0
    · subst h0
      have := h.fl
      simp [flowS] at this
      rw [this.1]; exact hfk
    · exact h0.2
  have hone := runS_one o ck v ha hfk
  rw [hone] at he ⊢
  by_cases hm : ck.count = 9223372036854775807
  · rw [if_pos hm] at he; simp at he
  rw [if_neg hm]
  refine ⟨?_, (stepS_ok o ck v h.b hi).1, .inr ⟨ha, hf⟩, fun _ _ => fits_step o ck v ha hfk h.b hm⟩
  rw [take_succ hv, flowS_snoc, h.fl]
  unfold fstep
  rw [if_neg (by simp), if_neg hm]
theorem RI.done {o : OpD} {c : CellD} {vs : List Int} {ck : CellD} {ok : List Int} (h : RI o c vs vs.length ck ok) (hv : ¬ vs = [] ∨ (aloneS o = true ∧ fitsS o c = true)) : runS o c vs = (ck, ok, 0) := by
  have hd : ∀ vs c, runS o c vs = if aloneS o = false then (zeroC, [], 180) else if fitsS o c = false then (zeroC, [], 181) else if (flowS o c vs).2.2 ≠ 0 then (zeroC, [], (flowS o c vs).2.2) else ((flowS o c vs).1, (flowS o c vs).2.1, 0) := fun _ _ => rfl
  have h0 : aloneS o = true ∧ fitsS o c = true := by
    rcases h.g with h0 | h0
    · rcases hv with hv | hv
      · exact (hv (List.eq_nil_of_length_eq_zero h0)).elim
      · exact hv
    · exact h0
  have hfl := h.fl
  rw [List.take_length] at hfl
  rw [hd, h0.1, h0.2, hfl]; simp
theorem runS_nil (o : OpD) (c : CellD) : runS o c [] = if aloneS o = false then (zeroC, [], 180) else if fitsS o c = false then (zeroC, [], 181) else (c, [], 0) := by
  unfold runS; simp [flowS]
theorem refRun_p (o : OpD) (c : CellD) (vs : List Int) (hlO : o.ins.length ≤ maxLen) (hA : o.A ≤ 9223372036854775807) (hc : c.ok) (hvs : ∀ v ∈ vs, i64b v) :
    Pure Try.prog 19 [.g (OpD.av o), .g (CellD.av c), .l 1 (vs.map i1)] (.t [.g (CellD.av (RunS o c vs).1), .l 1 ((RunS o c vs).2.1.map i1), .c (.int .i64 (RunS o c vs).2.2)]) := by
  intro H
  by_cases h40 : 40 < vs.length
  · have hR : RunS o c vs = (zeroC, [], 3) := by unfold RunS; rw [if_pos h40]
    rw [hR]
    have h40I : (40 : Int) < vs.length := by omega
    obtain ⟨t, w, l, A, B⟩ := o
    obtain ⟨cn, cs⟩ := c
    simp only [OpD.av, CellD.av, zeroC, List.map_nil]
    clear hR hlO hA
    refine ACall_of' Try.func19 rfl (Ent_of Try.func19 (by kernel_rfl) rfl) (by simp [Try.ntmps19]) ?_; simp only [Try.ntmps19, Try.results19]
    repeat' (first
    | refine AW_seq_kn fun K hK => ?_
    | refine AW_block ?_
    | (refine does_call rfl rfl ?_; simp only [push_cast, reduceIte, nA, nB, nC, reduceCtorEq, nD, nE, nF, nG, iA, iB, iC, iD, *]; refine ACall.mono (Right_p ⟨_, _, _, _, _⟩ (by assumption) _) ?_; (rintro _ _ ⟨rfl, e2⟩; have e3 := e2.symm; clear e2; subst e3); (try simp only [push_cast, reduceIte, nA, nB, nC, reduceCtorEq, nD, nE, nF, nG, iA, iB, iC, iD, *]))
    | (refine does_call rfl rfl ?_; simp only [push_cast, reduceIte, nA, nB, nC, reduceCtorEq, nD, nE, nF, nG, iA, iB, iC, iD, *]; refine ACall.mono (rfits_p ⟨_, _, _, _, _⟩ ⟨_, _⟩ _) ?_; (rintro _ _ ⟨rfl, e2⟩; have e3 := e2.symm; clear e2; subst e3); (try simp only [push_cast, reduceIte, nA, nB, nC, reduceCtorEq, nD, nE, nF, nG, iA, iB, iC, iD, *]))
    | (refine does_call rfl rfl ?_; simp only [push_cast, reduceIte, nA, nB, nC, reduceCtorEq, nD, nE, nF, nG, iA, iB, iC, iD, *]; refine ACall.mono (refDo_p ⟨_, _, _, _, _⟩ ⟨_, _⟩ _ (by assumption) (by assumption) _) ?_; (rintro _ _ ⟨rfl, e2⟩; have e3 := e2.symm; clear e2; subst e3); (try simp only [push_cast, reduceIte, nA, nB, nC, reduceCtorEq, nD, nE, nF, nG, iA, iB, iC, iD, *]))
    | ((first
      | refine AW_region_draw (id := 15) E0 (fun f => [].contains f) dLJ0 dAJ0 mixed (by kernel_rfl) ?_
      | refine AW_region E0 ?_ | refine AW_ret ?_ | refine AW_exit ?_ | refine AW_skip ?_ | unfold retQ); try simp only [push_cast, reduceIte, nA, nB, nC, reduceCtorEq, nD, nE, nF, nG, iA, iB, iC, iD, *])
    | (apply AW_cond; (case hc => (simp only [push_cast, reduceIte, nA, nB, nC, reduceCtorEq, nD, nE, nF, nG, iA, iB, iC, iD]; rfl)); all_goals (intro hc; first | (exfalso; simp only [push_cast, reduceIte, nA, nB, nC, reduceCtorEq, nD, nE, nF, nG, iA, iB, iC, iD, *] at hc; done) | (exact absurd hc (by decide)) | (with_reducible (have hcc : true = true := hc); clear hcc hc) | (with_reducible (have hcc : false = false := hc); clear hcc hc) | ((try simp only [Bool.not_true, Bool.not_false] at hc); (first | (with_reducible (have hcc : true = true := hc); clear hcc hc) | (with_reducible (have hcc : false = false := hc); clear hcc hc) | (have hp := hc; (try simp only [decide_eq_true_eq, decide_eq_false_iff_not, bA, bB, bC, bD, bE, bF, bG, bH] at hp))))))
    | (refine Kn.go hK ?_; clear hK K)
    | refine Kn.go (by assumption) ?_
    | (intro n hn; (try simp only [upd_none2, join_none_iff, ite_none, ne_eq] at hn); (try simp only [push_cast, reduceIte, nA, nB, nC, reduceCtorEq, nD, nE, nF, nG, iA, iB, iC, iD, *]))
    | (intro hc)
    | fail)
    exact ⟨_, _, Weak.imp (fun F => Imp.t (Imps.cons (Imp.refl (Mem.le.refl F) _) id (Imps.cons (Imp.nil_l 1) (fun _ => rfl) (Imps.cons (Imp.refl (Mem.le.refl F) _) id Imps.nil)))) (by (simp only [push_cast, reduceIte, nA, nB, nC, reduceCtorEq, nD, nE, nF, nG, iA, iB, iC, iD, *])), rfl, rfl⟩
  have hR : RunS o c vs = runS o c vs := by unfold RunS; rw [if_neg h40]
  rw [hR]
  clear hR
  have h40I : ¬ (40 : Int) < vs.length := by omega
  have hri := Right_p o hlO
  have hfi := rfits_p o c
  by_cases hnil : vs = [] ∧ ¬ (aloneS o = true ∧ fitsS o c = true)
  · obtain ⟨rfl, hbad⟩ := hnil
    rw [runS_nil]
    generalize aloneS o = a at *
    generalize fitsS o c = f at *
    obtain ⟨t, w, l, A, B⟩ := o
    obtain ⟨cn, cs⟩ := c
    simp only [OpD.av, CellD.av] at hri hfi ⊢
    clear hlO hA hc hvs
    cases a
    case' true =>
      cases f
      case' true => exfalso; simp at hbad
    all_goals
      clear hbad
      simp only [zeroC, if_true, if_false, reduceIte, Bool.true_eq_false, List.map_nil]
      refine ACall_of' Try.func19 rfl (Ent_of Try.func19 (by kernel_rfl) rfl) (by simp [Try.ntmps19]) ?_; simp only [Try.ntmps19, Try.results19]
      repeat' (first
    | refine AW_seq_kn fun K hK => ?_
    | refine AW_block ?_
    | (refine does_call rfl rfl ?_; simp only [push_cast, reduceIte, nA, nB, nC, reduceCtorEq, nD, nE, nF, nG, iA, iB, iC, iD, *]; refine ACall.mono (hri _) ?_; (rintro _ _ ⟨rfl, e2⟩; have e3 := e2.symm; clear e2; subst e3); (try simp only [push_cast, reduceIte, nA, nB, nC, reduceCtorEq, nD, nE, nF, nG, iA, iB, iC, iD, *]))
    | (refine does_call rfl rfl ?_; simp only [push_cast, reduceIte, nA, nB, nC, reduceCtorEq, nD, nE, nF, nG, iA, iB, iC, iD, *]; refine ACall.mono (hfi _) ?_; (rintro _ _ ⟨rfl, e2⟩; have e3 := e2.symm; clear e2; subst e3); (try simp only [push_cast, reduceIte, nA, nB, nC, reduceCtorEq, nD, nE, nF, nG, iA, iB, iC, iD, *]))
    | (refine does_call rfl rfl ?_; simp only [push_cast, reduceIte, nA, nB, nC, reduceCtorEq, nD, nE, nF, nG, iA, iB, iC, iD, *]; refine ACall.mono (Right_p ⟨_, _, _, _, _⟩ (by assumption) _) ?_; (rintro _ _ ⟨rfl, e2⟩; have e3 := e2.symm; clear e2; subst e3); (try simp only [push_cast, reduceIte, nA, nB, nC, reduceCtorEq, nD, nE, nF, nG, iA, iB, iC, iD, *]))
    | (refine does_call rfl rfl ?_; simp only [push_cast, reduceIte, nA, nB, nC, reduceCtorEq, nD, nE, nF, nG, iA, iB, iC, iD, *]; refine ACall.mono (rfits_p ⟨_, _, _, _, _⟩ ⟨_, _⟩ _) ?_; (rintro _ _ ⟨rfl, e2⟩; have e3 := e2.symm; clear e2; subst e3); (try simp only [push_cast, reduceIte, nA, nB, nC, reduceCtorEq, nD, nE, nF, nG, iA, iB, iC, iD, *]))
    | (refine does_call rfl rfl ?_; simp only [push_cast, reduceIte, nA, nB, nC, reduceCtorEq, nD, nE, nF, nG, iA, iB, iC, iD, *]; refine ACall.mono (refDo_p ⟨_, _, _, _, _⟩ ⟨_, _⟩ _ (by assumption) (by assumption) _) ?_; (rintro _ _ ⟨rfl, e2⟩; have e3 := e2.symm; clear e2; subst e3); (try simp only [push_cast, reduceIte, nA, nB, nC, reduceCtorEq, nD, nE, nF, nG, iA, iB, iC, iD, *]))
    | ((first
      | refine AW_region_draw (id := 15) E0 (fun f => [].contains f) dLJ0 dAJ0 mixed (by kernel_rfl) ?_
      | refine AW_region E0 ?_ | refine AW_ret ?_ | refine AW_exit ?_ | refine AW_skip ?_ | unfold retQ); try simp only [push_cast, reduceIte, nA, nB, nC, reduceCtorEq, nD, nE, nF, nG, iA, iB, iC, iD, *])
    | (apply AW_cond; (case hc => (simp only [push_cast, reduceIte, nA, nB, nC, reduceCtorEq, nD, nE, nF, nG, iA, iB, iC, iD]; rfl)); all_goals (intro hc; first | (exfalso; simp only [push_cast, reduceIte, nA, nB, nC, reduceCtorEq, nD, nE, nF, nG, iA, iB, iC, iD, *] at hc; done) | (exact absurd hc (by decide)) | (with_reducible (have hcc : true = true := hc); clear hcc hc) | (with_reducible (have hcc : false = false := hc); clear hcc hc) | ((try simp only [Bool.not_true, Bool.not_false] at hc); (first | (with_reducible (have hcc : true = true := hc); clear hcc hc) | (with_reducible (have hcc : false = false := hc); clear hcc hc) | (have hp := hc; (try simp only [decide_eq_true_eq, decide_eq_false_iff_not, bA, bB, bC, bD, bE, bF, bG, bH] at hp))))))
    | (refine Kn.go hK ?_; clear hK K)
    | refine Kn.go (by assumption) ?_
    | (intro n hn; (try simp only [upd_none2, join_none_iff, ite_none, ne_eq] at hn); (try simp only [push_cast, reduceIte, nA, nB, nC, reduceCtorEq, nD, nE, nF, nG, iA, iB, iC, iD, *]))
    | (intro hc)
    | fail)
      exact ⟨_, _, Weak.imp (fun F => Imp.t (Imps.cons (Imp.refl (Mem.le.refl F) _) id (Imps.cons (Imp.nil_l 1) (fun _ => rfl) (Imps.cons (Imp.refl (Mem.le.refl F) _) id Imps.nil)))) (by (simp only [push_cast, reduceIte, nA, nB, nC, reduceCtorEq, nD, nE, nF, nG, iA, iB, iC, iD, *])), rfl, rfl⟩
  have hdn : ¬ vs = [] ∨ (aloneS o = true ∧ fitsS o c = true) := by
    by_cases h1 : vs = []
    · exact .inr (Classical.byContradiction fun h2 => hnil ⟨h1, h2⟩)
    · exact .inl h1
  have hz : (¬ (vs.length : Int) = 0) ∨ ((vs.length : Int) = 0 ∧ aloneS o = true ∧ fitsS o c = true) := by
    rcases hdn with h1 | h1
    · have hpos : 0 < vs.length := List.length_pos_iff.2 h1
      left; omega
    · by_cases h2 : (vs.length : Int) = 0
      · exact .inr ⟨h2, h1⟩
      · exact .inl h2
  replace hdn := Lib.hid hdn
  clear hnil
  have hdo := fun c v => refDo_p o c v hlO hA
  obtain ⟨R, hRR⟩ : ∃ R, R = runS o c vs := ⟨_, rfl⟩
  rw [← hRR]
  replace hRR := Lib.hid hRR
  have h00 := RI.zero (o := o) (vs := vs) hc
  obtain ⟨OO, hOO⟩ : ∃ OO, OO = o := ⟨_, rfl⟩
  rw [← hOO] at hRR h00 hdo hdn hri hfi hz
  obtain ⟨t, w, l, A, B⟩ := o
  obtain ⟨cn, cs⟩ := c
  have hav : OpD.av OO = [.c (.int .i64 t), .c (.int .i64 w), .l 1 (l.map i1), .c (.int .i64 A), .c (.int .i64 B)] := by rw [hOO]; rfl
  rw [hav] at hdo hri hfi
  simp only [OpD.av, CellD.av] at hdo hri hfi ⊢
  clear hOO hav hlO hA hc
  replace hdo := Lib.hid hdo
  replace hvs := Lib.hid hvs
  replace h00 := Lib.hid h00
  rcases hz with hz0 | ⟨hz0, ha0, hf0⟩
  case' inr =>
    rw [ha0] at hri
    rw [hf0] at hfi
  case' inl =>
    clear hri hfi
    have hri := True.intro
    have hfi := True.intro
  all_goals
    refine ACall_of' Try.func19 rfl (Ent_of Try.func19 (by kernel_rfl) rfl) (by simp [Try.ntmps19]) ?_; simp only [Try.ntmps19, Try.results19]
    repeat' (first
    | refine AW_seq_kn fun K hK => ?_
    | refine AW_block ?_
    | (refine does_call rfl rfl ?_; simp only [push_cast, reduceIte, nA, nB, nC, reduceCtorEq, nD, nE, nF, nG, iA, iB, iC, iD, *]; refine ACall.mono (hri _) ?_; (rintro _ _ ⟨rfl, e2⟩; have e3 := e2.symm; clear e2; subst e3); (try simp only [push_cast, reduceIte, nA, nB, nC, reduceCtorEq, nD, nE, nF, nG, iA, iB, iC, iD, *]))
    | (refine does_call rfl rfl ?_; simp only [push_cast, reduceIte, nA, nB, nC, reduceCtorEq, nD, nE, nF, nG, iA, iB, iC, iD, *]; refine ACall.mono (hfi _) ?_; (rintro _ _ ⟨rfl, e2⟩; have e3 := e2.symm; clear e2; subst e3); (try simp only [push_cast, reduceIte, nA, nB, nC, reduceCtorEq, nD, nE, nF, nG, iA, iB, iC, iD, *]))
    | (refine does_call rfl rfl ?_; simp only [push_cast, reduceIte, nA, nB, nC, reduceCtorEq, nD, nE, nF, nG, iA, iB, iC, iD, *]; refine ACall.mono (Right_p ⟨_, _, _, _, _⟩ (by assumption) _) ?_; (rintro _ _ ⟨rfl, e2⟩; have e3 := e2.symm; clear e2; subst e3); (try simp only [push_cast, reduceIte, nA, nB, nC, reduceCtorEq, nD, nE, nF, nG, iA, iB, iC, iD, *]))
    | (refine does_call rfl rfl ?_; simp only [push_cast, reduceIte, nA, nB, nC, reduceCtorEq, nD, nE, nF, nG, iA, iB, iC, iD, *]; refine ACall.mono (rfits_p ⟨_, _, _, _, _⟩ ⟨_, _⟩ _) ?_; (rintro _ _ ⟨rfl, e2⟩; have e3 := e2.symm; clear e2; subst e3); (try simp only [push_cast, reduceIte, nA, nB, nC, reduceCtorEq, nD, nE, nF, nG, iA, iB, iC, iD, *]))
    | (refine does_call rfl rfl ?_; simp only [push_cast, reduceIte, nA, nB, nC, reduceCtorEq, nD, nE, nF, nG, iA, iB, iC, iD, *]; refine ACall.mono (refDo_p ⟨_, _, _, _, _⟩ ⟨_, _⟩ _ (by assumption) (by assumption) _) ?_; (rintro _ _ ⟨rfl, e2⟩; have e3 := e2.symm; clear e2; subst e3); (try simp only [push_cast, reduceIte, nA, nB, nC, reduceCtorEq, nD, nE, nF, nG, iA, iB, iC, iD, *]))
    | ((first
      | refine AW_region_draw (id := 15) E0 (fun f => [].contains f) dLJ0 dAJ0 mixed (by kernel_rfl) ?_
      | refine AW_region E0 ?_ | refine AW_ret ?_ | refine AW_exit ?_ | refine AW_skip ?_ | unfold retQ); try simp only [push_cast, reduceIte, nA, nB, nC, reduceCtorEq, nD, nE, nF, nG, iA, iB, iC, iD, *])
    | (apply AW_cond; (case hc => (simp only [push_cast, reduceIte, nA, nB, nC, reduceCtorEq, nD, nE, nF, nG, iA, iB, iC, iD]; rfl)); all_goals (intro hc; first | (exfalso; simp only [push_cast, reduceIte, nA, nB, nC, reduceCtorEq, nD, nE, nF, nG, iA, iB, iC, iD, *] at hc; done) | (exact absurd hc (by decide)) | (with_reducible (have hcc : true = true := hc); clear hcc hc) | (with_reducible (have hcc : false = false := hc); clear hcc hc) | ((try simp only [Bool.not_true, Bool.not_false] at hc); (first | (with_reducible (have hcc : true = true := hc); clear hcc hc) | (with_reducible (have hcc : false = false := hc); clear hcc hc) | (have hp := hc; (try simp only [decide_eq_true_eq, decide_eq_false_iff_not, bA, bB, bC, bD, bE, bF, bG, bH] at hp))))))
    | (refine Kn.go hK ?_; clear hK K)
    | refine Kn.go (by assumption) ?_
    | (intro n hn; (try simp only [upd_none2, join_none_iff, ite_none, ne_eq] at hn); (try simp only [push_cast, reduceIte, nA, nB, nC, reduceCtorEq, nD, nE, nF, nG, iA, iB, iC, iD, *]))
    | (intro hc)
    | fail)
    rename_i n1 h1 mc hc1
    generalize n = m6 at *
    obtain ⟨Hs, hHs⟩ : ∃ Hs : Heap, Hs = upd (upd (upd H n1 (.r 24 5 1 [[.c (.int .i64 t), .c (.int .i64 w), .l 1 (l.map i1), .c (.int .i64 A), .c (.int .i64 B)]])) mc (.r 26 2 1 [[.c (.int .i64 cn), .c (.int .i64 cs)]])) m6 (.r 26 2 1 [[.c (.int .i64 0), .c (.int .i64 0)]]) := ⟨_, rfl⟩
    have g1 : Hs n1 = some (.r 24 5 1 [[.c (.int .i64 t), .c (.int .i64 w), .l 1 (l.map i1), .c (.int .i64 A), .c (.int .i64 B)]]) := by rw [hHs]; simp only [push_cast, reduceIte, nA, nB, nC, reduceCtorEq, nD, nE, nF, nG, iA, iB, iC, iD, *]
    have gc : Hs mc = some (bcel ⟨cn, cs⟩) := by rw [hHs]; simp only [push_cast, reduceIte, nA, nB, nC, reduceCtorEq, nD, nE, nF, nG, iA, iB, iC, iD, *]
    have g6 : Hs m6 = some (.r 26 2 1 [[.c (.int .i64 0), .c (.int .i64 0)]]) := by rw [hHs]; simp only [push_cast, reduceIte, nA, nB, nC, reduceCtorEq, nD, nE, nF, nG, iA, iB, iC, iD, *]
    have n1c : ¬ n1 = mc := hc1.1.2
    have n6c : ¬ m6 = mc := hn.1.1
    have nc6 : ¬ mc = m6 := hn.1.2
    have hm6 : H m6 = none := hn.2.2
    have hmc : H mc = none := hc1.2
    have hle : Heap.le H Hs := by rw [hHs]; (repeat' (first | exact Heap.le_refl _ | refine hle_upd2 ?_ _ _ | (refine Heap.le_new ?_ ?_; rotate_left 1; focus (first | assumption | (simp only [upd_none2, upd_get, ne_eq, push_cast, reduceIte, nA, nB, nC, reduceCtorEq, nD, nE, nF, nG, iA, iB, iC, iD, *]; done) | (simp [upd_get, *]; done)))))
    have hs0 : Heap.le (upd Hs mc (bcel ⟨cn, cs⟩)) Hs := fun q b hq => by
      by_cases e : q = mc
      · subst e; rw [upd_same] at hq; rw [gc]; exact hq
      · rw [upd_ne e] at hq; exact hq
    rw [← hHs]
    clear hHs h1 hc1 hn hri hfi
    replace hle := Lib.hid hle
    refine AW_loopX (σ := CellD × List Int × AV × Heap) vs.length (fun k s => RI OO ⟨cn, cs⟩ vs k s.1 s.2.1 ∧ OwnL s.2.2.2 s.2.2.1 2 1 (s.2.1.map i1) (upd Hs mc (bcel s.1))) (fun k s => [(3, .p n1 5 0 0), (4, .p mc 2 0 0), (6, .p m6 2 0 0), (9, s.2.2.1), (33, .l 1 (vs.map i1)), (34, ci vs.length), (35, ci k)]) (fun _ s => s.2.2.2) (⟨cn, cs⟩, [], .c (.slice none 0 0), upd Hs mc (bcel ⟨cn, cs⟩)) ⟨unhid h00, OwnL.nil _ _ _⟩ ?_ ?_ ?_ ?_
    · (first | trivial | (simp only [push_cast, reduceIte, nA, nB, nC, reduceCtorEq, nD, nE, nF, nG, iA, iB, iC, iD, *]; done))
    · exact hs0
    · rintro k ⟨⟨kn, ks⟩, ok, x, B1⟩ hk ⟨hrI, hown⟩
      simp only at hrI hown
      clear hs0
      have hzz : ¬ (vs.length : Int) = 0 := by omega
      clear hz0
      have hv := List.getElem?_eq_getElem (l := vs) hk; generalize vs[k] = v at hv; have hvm := List.mem_of_getElem? hv; have hkl : (k : Int) < vs.length := (by omega); have hkw : IntKind.i64.wrap ((k : Int) + 1) = (k : Int) + 1 := wrap_i64 (by omega) (by omega)
      have hi1 : i1 v = [.c (.int .i64 v)] := rfl
      have hlen := hrI.len
      have hx1 := hown.one
      have hcs := hown.cs
      have k1 := hown.get (m := n1) (by rw [upd_ne n1c]; exact g1)
      have kc := hown.get (upd_same _ _ _)
      have k6 := hown.get (m := m6) (by rw [upd_ne n6c]; exact g6)
      have hne1 := ne_old k1
      have hne6 := ne_old k6
      have hd := unhid hdo ⟨kn, ks⟩ v
      have hbad := hrI.bad hv
      have hgood := hrI.good hv (unhid hvs v hvm)
      have hHB : Heap.le H B1 := fun q b hq => hown.get (by
        have c1 : ¬ q = mc := by rintro rfl; rw [hmc] at hq; cases hq
        rw [upd_ne c1]; exact unhid hle q b hq)
      generalize runS OO ⟨kn, ks⟩ [v] = T at *
      obtain ⟨⟨dn, ds⟩, dl, de⟩ := T
      simp only [CellD.av] at hd
      simp only at hbad hgood
      clear hrI hdo
      replace hHB := Lib.hid hHB
      by_cases he : de = 0
      · subst he
        replace hgood := Lib.hid (hgood rfl)
        have hll := (unhid hgood).len
        rw [List.length_append] at hll
        have hkcne := ne_old kc
        replace hown := Lib.hid hown
        clear hbad
        repeat' (first
    | refine AW_seq_kn fun K hK => ?_
    | refine AW_block ?_
    | (refine does_call rfl rfl ?_; simp only [push_cast, reduceIte, nA, nB, nC, reduceCtorEq, nD, nE, nF, nG, iA, iB, iC, iD, *]; refine ACall.mono (hd _) ?_; (rintro _ _ ⟨rfl, e2⟩; have e3 := e2.symm; clear e2; subst e3); (try simp only [push_cast, reduceIte, nA, nB, nC, reduceCtorEq, nD, nE, nF, nG, iA, iB, iC, iD, *]))
    | (refine does_call rfl rfl ?_; simp only [push_cast, reduceIte, nA, nB, nC, reduceCtorEq, nD, nE, nF, nG, iA, iB, iC, iD, *]; refine ACall.mono (Right_p ⟨_, _, _, _, _⟩ (by assumption) _) ?_; (rintro _ _ ⟨rfl, e2⟩; have e3 := e2.symm; clear e2; subst e3); (try simp only [push_cast, reduceIte, nA, nB, nC, reduceCtorEq, nD, nE, nF, nG, iA, iB, iC, iD, *]))
    | (refine does_call rfl rfl ?_; simp only [push_cast, reduceIte, nA, nB, nC, reduceCtorEq, nD, nE, nF, nG, iA, iB, iC, iD, *]; refine ACall.mono (rfits_p ⟨_, _, _, _, _⟩ ⟨_, _⟩ _) ?_; (rintro _ _ ⟨rfl, e2⟩; have e3 := e2.symm; clear e2; subst e3); (try simp only [push_cast, reduceIte, nA, nB, nC, reduceCtorEq, nD, nE, nF, nG, iA, iB, iC, iD, *]))
    | (refine does_call rfl rfl ?_; simp only [push_cast, reduceIte, nA, nB, nC, reduceCtorEq, nD, nE, nF, nG, iA, iB, iC, iD, *]; refine ACall.mono (refDo_p ⟨_, _, _, _, _⟩ ⟨_, _⟩ _ (by assumption) (by assumption) _) ?_; (rintro _ _ ⟨rfl, e2⟩; have e3 := e2.symm; clear e2; subst e3); (try simp only [push_cast, reduceIte, nA, nB, nC, reduceCtorEq, nD, nE, nF, nG, iA, iB, iC, iD, *]))
    | ((first
      | refine AW_region_draw (id := 15) E0 (fun f => [].contains f) dLJ0 dAJ0 mixed (by kernel_rfl) ?_
      | refine AW_region E0 ?_ | refine AW_ret ?_ | refine AW_exit ?_ | refine AW_skip ?_ | unfold retQ); try simp only [push_cast, reduceIte, nA, nB, nC, reduceCtorEq, nD, nE, nF, nG, iA, iB, iC, iD, *])
    | (apply AW_cond; (case hc => (simp only [push_cast, reduceIte, nA, nB, nC, reduceCtorEq, nD, nE, nF, nG, iA, iB, iC, iD]; rfl)); all_goals (intro hc; first | (exfalso; simp only [push_cast, reduceIte, nA, nB, nC, reduceCtorEq, nD, nE, nF, nG, iA, iB, iC, iD, *] at hc; done) | (exact absurd hc (by decide)) | (with_reducible (have hcc : true = true := hc); clear hcc hc) | (with_reducible (have hcc : false = false := hc); clear hcc hc) | ((try simp only [Bool.not_true, Bool.not_false] at hc); (first | (with_reducible (have hcc : true = true := hc); clear hcc hc) | (with_reducible (have hcc : false = false := hc); clear hcc hc) | (have hp := hc; (try simp only [decide_eq_true_eq, decide_eq_false_iff_not, bA, bB, bC, bD, bE, bF, bG, bH] at hp))))))
    | (refine Kn.go hK ?_; clear hK K)
    | refine Kn.go (by assumption) ?_
    | (intro n hn; (try simp only [upd_none2, join_none_iff, ite_none, ne_eq] at hn); (try simp only [push_cast, reduceIte, nA, nB, nC, reduceCtorEq, nD, nE, nF, nG, iA, iB, iC, iD, *]))
    | (intro hc)
    | fail)
        have ncn : ¬ mc = n := of_eq_false (hkcne n hn).1
        have hown2 := (unhid hown).new hn (.r 26 2 1 [[.c (.int .i64 dn), .c (.int .i64 ds)]])
        refine does_appL rfl rfl rfl hown2 tE29 tS2 tB2 tZ2 rfl (by decide) ?_ ?_ ?_
        · simp only [List.length_map, maxLen]; omega
        · simp only [List.length_map]; omega
        intro x' H' hown'
        have gk : upd (upd Hs mc (bcel ⟨kn, ks⟩)) n (.r 26 2 1 [[.c (.int .i64 dn), .c (.int .i64 ds)]]) mc = some (bcel ⟨kn, ks⟩) := by rw [upd_ne ncn, upd_same]
        have kc' := hown'.get gk
        have kn' := hown'.get (upd_same _ _ _)
        have hcs' := hown'.cs
        have hx1' := hown'.one
        have ht := hown'.turn gk (bcel ⟨dn, ds⟩)
        have hHn : Hs n = none := by
          have h1 := (unhid hown).none hn
          rw [upd_none] at h1
          exact h1.2
        obtain ⟨H2, l1, l2⟩ := ht.cut (K := upd Hs mc (bcel ⟨dn, ds⟩)) (fun q b hq => by
          by_cases c1 : q = mc
          · subst c1; rw [upd_same] at hq ⊢; exact hq
          · rw [upd_ne c1] at hq ⊢
            have c2 : ¬ q = n := by rintro rfl; rw [hHn] at hq; cases hq
            rw [upd_ne c2, upd_ne c1]; exact hq)
        rw [← List.map_append] at l2
        clear hown hown2 hown' ht gk k1 kc k6 hkcne hcs hx1
        replace l1 := Lib.hid l1
        replace l2 := Lib.hid l2
        (try simp only [push_cast, reduceIte, nA, nB, nC, reduceCtorEq, nD, nE, nF, nG, iA, iB, iC, iD, *])
        repeat' (first
    | refine AW_seq_kn fun K hK => ?_
    | refine AW_block ?_
    | (refine does_call rfl rfl ?_; simp only [push_cast, reduceIte, nA, nB, nC, reduceCtorEq, nD, nE, nF, nG, iA, iB, iC, iD, *]; refine ACall.mono (Right_p ⟨_, _, _, _, _⟩ (by assumption) _) ?_; (rintro _ _ ⟨rfl, e2⟩; have e3 := e2.symm; clear e2; subst e3); (try simp only [push_cast, reduceIte, nA, nB, nC, reduceCtorEq, nD, nE, nF, nG, iA, iB, iC, iD, *]))
    | (refine does_call rfl rfl ?_; simp only [push_cast, reduceIte, nA, nB, nC, reduceCtorEq, nD, nE, nF, nG, iA, iB, iC, iD, *]; refine ACall.mono (rfits_p ⟨_, _, _, _, _⟩ ⟨_, _⟩ _) ?_; (rintro _ _ ⟨rfl, e2⟩; have e3 := e2.symm; clear e2; subst e3); (try simp only [push_cast, reduceIte, nA, nB, nC, reduceCtorEq, nD, nE, nF, nG, iA, iB, iC, iD, *]))
    | (refine does_call rfl rfl ?_; simp only [push_cast, reduceIte, nA, nB, nC, reduceCtorEq, nD, nE, nF, nG, iA, iB, iC, iD, *]; refine ACall.mono (refDo_p ⟨_, _, _, _, _⟩ ⟨_, _⟩ _ (by assumption) (by assumption) _) ?_; (rintro _ _ ⟨rfl, e2⟩; have e3 := e2.symm; clear e2; subst e3); (try simp only [push_cast, reduceIte, nA, nB, nC, reduceCtorEq, nD, nE, nF, nG, iA, iB, iC, iD, *]))
    | ((first
      | refine AW_region_draw (id := 15) E0 (fun f => [].contains f) dLJ0 dAJ0 mixed (by kernel_rfl) ?_
      | refine AW_region E0 ?_ | refine AW_ret ?_ | refine AW_exit ?_ | refine AW_skip ?_ | unfold retQ); try simp only [push_cast, reduceIte, nA, nB, nC, reduceCtorEq, nD, nE, nF, nG, iA, iB, iC, iD, *])
    | (apply AW_cond; (case hc => (simp only [push_cast, reduceIte, nA, nB, nC, reduceCtorEq, nD, nE, nF, nG, iA, iB, iC, iD]; rfl)); all_goals (intro hc; first | (exfalso; simp only [push_cast, reduceIte, nA, nB, nC, reduceCtorEq, nD, nE, nF, nG, iA, iB, iC, iD, *] at hc; done) | (exact absurd hc (by decide)) | (with_reducible (have hcc : true = true := hc); clear hcc hc) | (with_reducible (have hcc : false = false := hc); clear hcc hc) | ((try simp only [Bool.not_true, Bool.not_false] at hc); (first | (with_reducible (have hcc : true = true := hc); clear hcc hc) | (with_reducible (have hcc : false = false := hc); clear hcc hc) | (have hp := hc; (try simp only [decide_eq_true_eq, decide_eq_false_iff_not, bA, bB, bC, bD, bE, bF, bG, bH] at hp))))))
    | (refine Kn.go hK ?_; clear hK K)
    | refine Kn.go (by assumption) ?_
    | (intro n hn; (try simp only [upd_none2, join_none_iff, ite_none, ne_eq] at hn); (try simp only [push_cast, reduceIte, nA, nB, nC, reduceCtorEq, nD, nE, nF, nG, iA, iB, iC, iD, *]))
    | (intro hc)
    | fail)
        exact ⟨(⟨dn, ds⟩, ok ++ dl, x', H2), ⟨unhid hgood, unhid l2⟩, by (first | trivial | (simp only [push_cast, reduceIte, nA, nB, nC, reduceCtorEq, nD, nE, nF, nG, iA, iB, iC, iD, *]; done)), unhid l1⟩
      · have heF : (de = 0) = False := by simp [he]
        have hR : R = (zeroC, [], de) := by rw [unhid hRR]; exact hbad he
        subst hR
        simp only [zeroC, List.map_nil]
        clear hgood hown hbad
        repeat' (first
    | refine AW_seq_kn fun K hK => ?_
    | refine AW_block ?_
    | (refine does_call rfl rfl ?_; simp only [push_cast, reduceIte, nA, nB, nC, reduceCtorEq, nD, nE, nF, nG, iA, iB, iC, iD, *]; refine ACall.mono (hd _) ?_; (rintro _ _ ⟨rfl, e2⟩; have e3 := e2.symm; clear e2; subst e3); (try simp only [push_cast, reduceIte, nA, nB, nC, reduceCtorEq, nD, nE, nF, nG, iA, iB, iC, iD, *]))
    | (refine does_call rfl rfl ?_; simp only [push_cast, reduceIte, nA, nB, nC, reduceCtorEq, nD, nE, nF, nG, iA, iB, iC, iD, *]; refine ACall.mono (Right_p ⟨_, _, _, _, _⟩ (by assumption) _) ?_; (rintro _ _ ⟨rfl, e2⟩; have e3 := e2.symm; clear e2; subst e3); (try simp only [push_cast, reduceIte, nA, nB, nC, reduceCtorEq, nD, nE, nF, nG, iA, iB, iC, iD, *]))
    | (refine does_call rfl rfl ?_; simp only [push_cast, reduceIte, nA, nB, nC, reduceCtorEq, nD, nE, nF, nG, iA, iB, iC, iD, *]; refine ACall.mono (rfits_p ⟨_, _, _, _, _⟩ ⟨_, _⟩ _) ?_; (rintro _ _ ⟨rfl, e2⟩; have e3 := e2.symm; clear e2; subst e3); (try simp only [push_cast, reduceIte, nA, nB, nC, reduceCtorEq, nD, nE, nF, nG, iA, iB, iC, iD, *]))
    | (refine does_call rfl rfl ?_; simp only [push_cast, reduceIte, nA, nB, nC, reduceCtorEq, nD, nE, nF, nG, iA, iB, iC, iD, *]; refine ACall.mono (refDo_p ⟨_, _, _, _, _⟩ ⟨_, _⟩ _ (by assumption) (by assumption) _) ?_; (rintro _ _ ⟨rfl, e2⟩; have e3 := e2.symm; clear e2; subst e3); (try simp only [push_cast, reduceIte, nA, nB, nC, reduceCtorEq, nD, nE, nF, nG, iA, iB, iC, iD, *]))
    | ((first
      | refine AW_region_draw (id := 15) E0 (fun f => [].contains f) dLJ0 dAJ0 mixed (by kernel_rfl) ?_
      | refine AW_region E0 ?_ | refine AW_ret ?_ | refine AW_exit ?_ | refine AW_skip ?_ | unfold retQ); try simp only [push_cast, reduceIte, nA, nB, nC, reduceCtorEq, nD, nE, nF, nG, iA, iB, iC, iD, *])
    | (apply AW_cond; (case hc => (simp only [push_cast, reduceIte, nA, nB, nC, reduceCtorEq, nD, nE, nF, nG, iA, iB, iC, iD]; rfl)); all_goals (intro hc; first | (exfalso; simp only [push_cast, reduceIte, nA, nB, nC, reduceCtorEq, nD, nE, nF, nG, iA, iB, iC, iD, *] at hc; done) | (exact absurd hc (by decide)) | (with_reducible (have hcc : true = true := hc); clear hcc hc) | (with_reducible (have hcc : false = false := hc); clear hcc hc) | ((try simp only [Bool.not_true, Bool.not_false] at hc); (first | (with_reducible (have hcc : true = true := hc); clear hcc hc) | (with_reducible (have hcc : false = false := hc); clear hcc hc) | (have hp := hc; (try simp only [decide_eq_true_eq, decide_eq_false_iff_not, bA, bB, bC, bD, bE, bF, bG, bH] at hp))))))
    | (refine Kn.go hK ?_; clear hK K)
    | refine Kn.go (by assumption) ?_
    | (intro n hn; (try simp only [upd_none2, join_none_iff, ite_none, ne_eq] at hn); (try simp only [push_cast, reduceIte, nA, nB, nC, reduceCtorEq, nD, nE, nF, nG, iA, iB, iC, iD, *]))
    | (intro hc)
    | fail)
        refine ⟨_, H, Weak.imp (fun F => Imp.t (Imps.cons (Imp.refl (Mem.le.refl F) _) id (Imps.cons (Imp.nil_l 1) (fun _ => rfl) (Imps.cons (Imp.refl (Mem.le.refl F) _) id Imps.nil)))) ?_, rfl, rfl⟩
        intro q b hq
        have c6 : ¬ q = m6 := by rintro rfl; rw [hm6] at hq; cases hq
        have hqB := unhid hHB q b hq
        have cn' : ¬ q = n := by rintro rfl; rw [hn] at hqB; cases hqB
        simp only [upd_get, c6, cn', if_false]
        exact hqB
    · rintro ⟨⟨kn, ks⟩, ok, x, B1⟩ ⟨hrI, hown⟩
      simp only at hrI hown
      have hR : R = (⟨kn, ks⟩, ok, 0) := by rw [unhid hRR]; exact hrI.done (unhid hdn)
      subst hR
      have hcs := hown.cs
      have kc := hown.get (upd_same _ _ _)
      have gk : upd Hs mc (bcel ⟨kn, ks⟩) m6 = some (.r 26 2 1 [[.c (.int .i64 0), .c (.int .i64 0)]]) := by rw [upd_ne n6c]; exact g6
      have k6 := hown.get gk
      have ht := hown.turn gk (.r 26 2 1 [[.c (.int .i64 kn), .c (.int .i64 ks)]])
      have hlf : Heap.le H (upd (upd Hs mc (bcel ⟨kn, ks⟩)) m6 (.r 26 2 1 [[.c (.int .i64 kn), .c (.int .i64 ks)]])) := fun q b hq => by
        have c6 : ¬ q = m6 := by rintro rfl; rw [hm6] at hq; cases hq
        have c1 : ¬ q = mc := by rintro rfl; rw [hmc] at hq; cases hq
        rw [upd_ne c6, upd_ne c1]; exact unhid hle q b hq
      clear hrI hown gk hs0 hdo
      replace ht := Lib.hid ht
      replace hlf := Lib.hid hlf
      repeat' (first
    | refine AW_seq_kn fun K hK => ?_
    | refine AW_block ?_
    | (refine does_call rfl rfl ?_; simp only [push_cast, reduceIte, nA, nB, nC, reduceCtorEq, nD, nE, nF, nG, iA, iB, iC, iD, *]; refine ACall.mono (Right_p ⟨_, _, _, _, _⟩ (by assumption) _) ?_; (rintro _ _ ⟨rfl, e2⟩; have e3 := e2.symm; clear e2; subst e3); (try simp only [push_cast, reduceIte, nA, nB, nC, reduceCtorEq, nD, nE, nF, nG, iA, iB, iC, iD, *]))
    | (refine does_call rfl rfl ?_; simp only [push_cast, reduceIte, nA, nB, nC, reduceCtorEq, nD, nE, nF, nG, iA, iB, iC, iD, *]; refine ACall.mono (rfits_p ⟨_, _, _, _, _⟩ ⟨_, _⟩ _) ?_; (rintro _ _ ⟨rfl, e2⟩; have e3 := e2.symm; clear e2; subst e3); (try simp only [push_cast, reduceIte, nA, nB, nC, reduceCtorEq, nD, nE, nF, nG, iA, iB, iC, iD, *]))
    | (refine does_call rfl rfl ?_; simp only [push_cast, reduceIte, nA, nB, nC, reduceCtorEq, nD, nE, nF, nG, iA, iB, iC, iD, *]; refine ACall.mono (refDo_p ⟨_, _, _, _, _⟩ ⟨_, _⟩ _ (by assumption) (by assumption) _) ?_; (rintro _ _ ⟨rfl, e2⟩; have e3 := e2.symm; clear e2; subst e3); (try simp only [push_cast, reduceIte, nA, nB, nC, reduceCtorEq, nD, nE, nF, nG, iA, iB, iC, iD, *]))
    | ((first
      | refine AW_region_draw (id := 15) E0 (fun f => [].contains f) dLJ0 dAJ0 mixed (by kernel_rfl) ?_
      | refine AW_region E0 ?_ | refine AW_ret ?_ | refine AW_exit ?_ | refine AW_skip ?_ | unfold retQ); try simp only [push_cast, reduceIte, nA, nB, nC, reduceCtorEq, nD, nE, nF, nG, iA, iB, iC, iD, *])
    | (apply AW_cond; (case hc => (simp only [push_cast, reduceIte, nA, nB, nC, reduceCtorEq, nD, nE, nF, nG, iA, iB, iC, iD]; rfl)); all_goals (intro hc; first | (exfalso; simp only [push_cast, reduceIte, nA, nB, nC, reduceCtorEq, nD, nE, nF, nG, iA, iB, iC, iD, *] at hc; done) | (exact absurd hc (by decide)) | (with_reducible (have hcc : true = true := hc); clear hcc hc) | (with_reducible (have hcc : false = false := hc); clear hcc hc) | ((try simp only [Bool.not_true, Bool.not_false] at hc); (first | (with_reducible (have hcc : true = true := hc); clear hcc hc) | (with_reducible (have hcc : false = false := hc); clear hcc hc) | (have hp := hc; (try simp only [decide_eq_true_eq, decide_eq_false_iff_not, bA, bB, bC, bD, bE, bF, bG, bH] at hp))))))
    | (refine Kn.go hK ?_; clear hK K)
    | refine Kn.go (by assumption) ?_
    | (intro n hn; (try simp only [upd_none2, join_none_iff, ite_none, ne_eq] at hn); (try simp only [push_cast, reduceIte, nA, nB, nC, reduceCtorEq, nD, nE, nF, nG, iA, iB, iC, iD, *]))
    | (intro hc)
    | fail)
      exact ⟨_, _, (own_t3 (unhid ht)).trans (Weak.less (unhid hlf)), rfl, rfl⟩
end Go.Proofs.Ytmkncbddjnaklaa
