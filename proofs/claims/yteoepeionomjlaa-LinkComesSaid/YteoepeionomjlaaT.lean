/- Walks: the first one is taken off; the reference's Hear and Send. -/
import Derived.Test.YteoepeionomjlaaI
import Derived.Test.YteoepeionomjlaaR2
namespace Go.Proofs.Yteoepeionomjlaa
open Go.RowKit
open Nat renaming reduceEqDiff → nA, reduceLT → nB, reduceLeDiff → nC, reduceAdd → nD, reduceMul → nE, reduceSub → nF, reduceBEq → nG
open Int renaming reduceToNat → iA, reduceLT → iB, reduceLE → iC, reduceEq → iD
open Bool renaming and_eq_true → bA, or_eq_true → bB, or_eq_false_iff → bC, and_eq_false_iff → bD, not_eq_true' → bE, not_eq_false' → bF, not_true → bG, not_false → bH
set_option linter.all false
set_option maxHeartbeats 4000000
attribute [local irreducible] AW Does

theorem rhear_p (s : Rcv) (p : Pk) (hok : rcvOk s = true) : Pure Try.prog 30 [.g (Rcv.av s), .g (Pk.av p)] (.g (Rcv.av (hearS s p))) := by
  intro H
  obtain ⟨hq, hq2, hq3, hq4, hq5, hq6⟩ := rcvOk_len hok
  obtain ⟨R, hR⟩ : ∃ R : AV, R = .g (Rcv.av (hearS s p)) := ⟨_, rfl⟩
  rw [← hR]
  obtain ⟨se, nx, b, ro⟩ := s
  simp only at hq hq2 hq3 hq4 hq5 hq6
  obtain ⟨kd, pse, sq, pli, e⟩ := p
  have hml : b.length ≤ maxLen := by unfold maxLen; omega
  replace hR := Lib.hid hR
  have hel' := elems_o b (by omega)
  refine ACall_of' Try.func30 rfl (Ent_of Try.func30 (by kernel_rfl) rfl) (by simp [Try.ntmps30]) ?_; simp only [Try.ntmps30, Try.results30]
  simp only [Rcv.av, Pk.av]
  repeat' (first
    | refine AW_seq_kn fun K hK => ?_
    | refine AW_block ?_
    | (refine does_call rfl rfl ?_; simp only [push_cast, reduceIte, nA, nB, nC, reduceCtorEq, nD, nE, nF, nG, iA, iB, iC, iD, *]; refine ACall.mono (rightElem_p _ _) ?_; (rintro _ _ ⟨rfl, e2⟩; have e3 := e2.symm; clear e2; subst e3); (try simp only [push_cast, reduceIte, nA, nB, nC, reduceCtorEq, nD, nE, nF, nG, iA, iB, iC, iD, *]))
    | (refine does_call rfl rfl ?_; simp only [push_cast, reduceIte, nA, nB, nC, reduceCtorEq, nD, nE, nF, nG, iA, iB, iC, iD, *]; refine ACall.mono (ends14_p _ (by assumption) _) ?_; (rintro _ _ ⟨rfl, e2⟩; have e3 := e2.symm; clear e2; subst e3); (try simp only [push_cast, reduceIte, nA, nB, nC, reduceCtorEq, nD, nE, nF, nG, iA, iB, iC, iD, *]))
    | ((first
      | refine AW_region_draw (id := 4) E1 (fun f => [].contains f) [(0, false, []), (1, false, []), (3, false, []), (4, true, []), (7, false, []), (8, true, []), (9, false, []), (2, false, [4, 8, 5]), (5, false, []), (6, false, [8]), (10, false, []), (11, false, []), (12, false, []), (13, false, [])] [[], [0], [0, 1], [], [3], [3, 4], [0, 1, 2, 3, 4, 5], [], [7], [7, 8], [0, 1, 2, 3, 4, 5, 6, 7, 8], [0, 1, 2, 3, 4, 5, 6, 7, 8, 10], [0, 1, 2, 3, 4, 5, 6, 7, 8, 9, 10, 11], [0, 1, 2, 3, 4, 5, 6, 7, 8, 9, 10, 11, 12]] mixed (by kernel_rfl) ?_
      | refine AW_region E1 ?_ | refine AW_ret ?_ | refine AW_exit ?_ | refine AW_skip ?_ | unfold retQ); try simp only [push_cast, reduceIte, nA, nB, nC, reduceCtorEq, nD, nE, nF, nG, iA, iB, iC, iD, *])
    | (apply AW_cond; (case hc => (simp only [push_cast, reduceIte, nA, nB, nC, reduceCtorEq, nD, nE, nF, nG, iA, iB, iC, iD]; rfl)); all_goals (intro hc; first | (exfalso; simp only [push_cast, reduceIte, nA, nB, nC, reduceCtorEq, nD, nE, nF, nG, iA, iB, iC, iD, *] at hc; done) | (exact absurd hc (by decide)) | (with_reducible (have hcc : true = true := hc); clear hcc hc) | (with_reducible (have hcc : false = false := hc); clear hcc hc) | ((try simp only [Bool.not_true, Bool.not_false] at hc); (first | (with_reducible (have hcc : true = true := hc); clear hcc hc) | (with_reducible (have hcc : false = false := hc); clear hcc hc) | (have hp := hc; (try simp only [decide_eq_true_eq, decide_eq_false_iff_not, bA, bB, bC, bD, bE, bF, bG, bH] at hp))))))
    | (refine Kn.go hK ?_; clear hK K)
    | refine Kn.go (by assumption) ?_
    | (intro n hn; (try simp only [upd_none2, join_none_iff, ite_none, ne_eq] at hn); (try simp only [push_cast, reduceIte, nA, nB, nC, reduceCtorEq, nD, nE, nF, nG, iA, iB, iC, iD, *]))
    | (intro hc)
    | (apply ER_blk; (case hp => rfl); (case hb => (simp only [push_cast, reduceIte, nA, nB, nC, reduceCtorEq, nD, nE, nF, nG, iA, iB, iC, iD]; rfl)); (case hd => (simp only [push_cast, reduceIte, nA, nB, nC, reduceCtorEq, nD, nE, nF, nG, iA, iB, iC, iD]; done)); (case h => (intro hc; simp only [push_cast, reduceIte, nA, nB, nC, reduceCtorEq, nD, nE, nF, nG, iA, iB, iC, iD, *]; rfl)); simp only [push_cast, reduceIte, nA, nB, nC, reduceCtorEq, nD, nE, nF, nG, iA, iB, iC, iD, *])
    | (apply ER_guard; (case hb => (simp only [push_cast, reduceIte, nA, nB, nC, reduceCtorEq, nD, nE, nF, nG, iA, iB, iC, iD]; rfl)); all_goals ((intro hc; first | (exfalso; simp only [push_cast, reduceIte, nA, nB, nC, reduceCtorEq, nD, nE, nF, nG, iA, iB, iC, iD, *] at hc; done) | (exact absurd hc (by decide)) | (with_reducible (have hcc : true = true := hc); clear hcc hc) | (with_reducible (have hcc : false = false := hc); clear hcc hc) | ((try simp only [Bool.not_true, Bool.not_false] at hc); (first | (with_reducible (have hcc : true = true := hc); clear hcc hc) | (with_reducible (have hcc : false = false := hc); clear hcc hc) | (have hp := hc; (try simp only [decide_eq_true_eq, decide_eq_false_iff_not, bA, bB, bC, bD, bE, bF, bG, bH] at hp))))) <;> try simp only [push_cast, reduceIte, nA, nB, nC, reduceCtorEq, nD, nE, nF, nG, iA, iB, iC, iD, *]))
    | fail)
  all_goals try
    (have h0 : hearOk ⟨se, nx, b, ro⟩ ⟨kd, pse, sq, pli, e⟩ = false := by
      cases h : hearOk ⟨se, nx, b, ro⟩ ⟨kd, pse, sq, pli, e⟩
      · rfl
      · exfalso
        simp only [hearOk, Bool.and_eq_true, decide_eq_true_eq, Bool.not_eq_true'] at h
        obtain ⟨⟨⟨⟨⟨⟨⟨g1, g2⟩, g3⟩, g4⟩, g5⟩, g6⟩, g7⟩, g8⟩ := h
        first | (exfalso; omega) | (simp only [g1, g2, g3, g4, g5, g8, not_true, or_self, false_or, or_false, Bool.true_eq_false, Bool.false_eq_true] at *; done) | (simp_all; done) | (simp_all; omega)
     have hR : R = .g (Rcv.av (hearS ⟨se, nx, b, ro⟩ ⟨kd, pse, sq, pli, e⟩)) := hR
     refine ⟨_, _, Weak.less (by (simp only [push_cast, reduceIte, nA, nB, nC, reduceCtorEq, nD, nE, nF, nG, iA, iB, iC, iD, *])), ?_, rfl⟩
     rw [hR, hearS, h0]; rfl)
  rename_i ps h1 pp h2 c1 p1 c2 p2 c3 p3
  obtain ⟨⟨a1, a2⟩, a3⟩ := p1
  obtain ⟨⟨⟨a4, a5⟩, a6⟩, a7⟩ := p2
  have hok2 : hearOk ⟨se, nx, b, ro⟩ ⟨kd, pse, sq, pli, e⟩ = true := by
    simp only [hearOk, Bool.and_eq_true, decide_eq_true_eq, Bool.not_eq_true']
    exact ⟨⟨⟨⟨⟨⟨⟨a1, a2⟩, a3⟩, a4⟩, a5⟩, by omega⟩, by omega⟩, hp⟩
  have hR : R = .g (Rcv.av (hearS ⟨se, nx, b, ro⟩ ⟨kd, pse, sq, pli, e⟩)) := hR
  rw [hearS, if_pos hok2] at hR
  replace hR := Lib.hid hR
  have hnw : IntKind.u64.wrap (nx + 1) = nx + 1 := wrap_u64 (by omega) (by omega)
  clear a1 a2 a3 a4 a5 a6 a7 c1 c2 c3 p3 hp hc hok2
  refine does_call rfl rfl ?_
  (try simp only [push_cast, reduceIte, nA, nB, nC, reduceCtorEq, nD, nE, nF, nG, iA, iB, iC, iD, *])
  refine ACall.mono (hel' _) ?_
  intro x G hown
  have d1 : ps ≠ pp := fun h => h2.1.1 h.symm
  have d2 : ps ≠ n := fun h => hn.2.1.1 h.symm
  have d3 : pp ≠ n := fun h => hn.1.1 h.symm
  have hcs := hown.cs
  have k1 := hown.get (m := ps) (by rw [upd_ne d2, upd_ne d1]; exact upd_same _ _ _)
  have k2 := hown.get (m := pp) (by rw [upd_ne d3]; exact upd_same _ _ _)
  have k3 := hown.get (m := n) (upd_same _ _ _)
  have n1 := ne_old k1
  have n2 := ne_old k2
  have n3 := ne_old k3
  (try simp only [push_cast, reduceIte, nA, nB, nC, reduceCtorEq, nD, nE, nF, nG, iA, iB, iC, iD, *])
  intro m hm
  refine does_app1 rfl rfl rfl rfl hown hm tE24 tS33 tB33 tZ33 rfl (by decide) ?_ ?_ ?_
  · simp only [List.length_map, maxLen]; omega
  · simp only [List.length_map]; omega
  intro x' H' hown'
  have k1' := hown'.get (m := ps) (by rw [upd_ne d2, upd_ne d1]; exact upd_same _ _ _)
  have k2' := hown'.get (m := pp) (by rw [upd_ne d3]; exact upd_same _ _ _)
  have k3' := hown'.get (m := n) (upd_same _ _ _)
  have hcs' := hown'.cs
  clear k1 k2 k3 n1 n2 n3 hcs hown
  (try simp only [push_cast, reduceIte, nA, nB, nC, reduceCtorEq, nD, nE, nF, nG, iA, iB, iC, iD, *])
  refine Kn.go (by assumption) ?_
  repeat' (first
    | refine AW_seq_kn fun K hK => ?_
    | refine AW_block ?_
    | (refine does_call rfl rfl ?_; simp only [push_cast, reduceIte, nA, nB, nC, reduceCtorEq, nD, nE, nF, nG, iA, iB, iC, iD, *]; refine ACall.mono (rightElem_p _ _) ?_; (rintro _ _ ⟨rfl, e2⟩; have e3 := e2.symm; clear e2; subst e3); (try simp only [push_cast, reduceIte, nA, nB, nC, reduceCtorEq, nD, nE, nF, nG, iA, iB, iC, iD, *]))
    | (refine does_call rfl rfl ?_; simp only [push_cast, reduceIte, nA, nB, nC, reduceCtorEq, nD, nE, nF, nG, iA, iB, iC, iD, *]; refine ACall.mono (ends14_p _ (by assumption) _) ?_; (rintro _ _ ⟨rfl, e2⟩; have e3 := e2.symm; clear e2; subst e3); (try simp only [push_cast, reduceIte, nA, nB, nC, reduceCtorEq, nD, nE, nF, nG, iA, iB, iC, iD, *]))
    | ((first
      | refine AW_region_draw (id := 4) E1 (fun f => [].contains f) [(0, false, []), (1, false, []), (3, false, []), (4, true, []), (7, false, []), (8, true, []), (9, false, []), (2, false, [4, 8, 5]), (5, false, []), (6, false, [8]), (10, false, []), (11, false, []), (12, false, []), (13, false, [])] [[], [0], [0, 1], [], [3], [3, 4], [0, 1, 2, 3, 4, 5], [], [7], [7, 8], [0, 1, 2, 3, 4, 5, 6, 7, 8], [0, 1, 2, 3, 4, 5, 6, 7, 8, 10], [0, 1, 2, 3, 4, 5, 6, 7, 8, 9, 10, 11], [0, 1, 2, 3, 4, 5, 6, 7, 8, 9, 10, 11, 12]] mixed (by kernel_rfl) ?_
      | refine AW_region E1 ?_ | refine AW_ret ?_ | refine AW_exit ?_ | refine AW_skip ?_ | unfold retQ); try simp only [push_cast, reduceIte, nA, nB, nC, reduceCtorEq, nD, nE, nF, nG, iA, iB, iC, iD, *])
    | (apply AW_cond; (case hc => (simp only [push_cast, reduceIte, nA, nB, nC, reduceCtorEq, nD, nE, nF, nG, iA, iB, iC, iD]; rfl)); all_goals (intro hc; first | (exfalso; simp only [push_cast, reduceIte, nA, nB, nC, reduceCtorEq, nD, nE, nF, nG, iA, iB, iC, iD, *] at hc; done) | (exact absurd hc (by decide)) | (with_reducible (have hcc : true = true := hc); clear hcc hc) | (with_reducible (have hcc : false = false := hc); clear hcc hc) | ((try simp only [Bool.not_true, Bool.not_false] at hc); (first | (with_reducible (have hcc : true = true := hc); clear hcc hc) | (with_reducible (have hcc : false = false := hc); clear hcc hc) | (have hp := hc; (try simp only [decide_eq_true_eq, decide_eq_false_iff_not, bA, bB, bC, bD, bE, bF, bG, bH] at hp))))))
    | (refine Kn.go hK ?_; clear hK K)
    | refine Kn.go (by assumption) ?_
    | (intro n hn; (try simp only [upd_none2, join_none_iff, ite_none, ne_eq] at hn); (try simp only [push_cast, reduceIte, nA, nB, nC, reduceCtorEq, nD, nE, nF, nG, iA, iB, iC, iD, *]))
    | (intro hc)
    | (apply ER_blk; (case hp => rfl); (case hb => (simp only [push_cast, reduceIte, nA, nB, nC, reduceCtorEq, nD, nE, nF, nG, iA, iB, iC, iD]; rfl)); (case hd => (simp only [push_cast, reduceIte, nA, nB, nC, reduceCtorEq, nD, nE, nF, nG, iA, iB, iC, iD]; done)); (case h => (intro hc; simp only [push_cast, reduceIte, nA, nB, nC, reduceCtorEq, nD, nE, nF, nG, iA, iB, iC, iD, *]; rfl)); simp only [push_cast, reduceIte, nA, nB, nC, reduceCtorEq, nD, nE, nF, nG, iA, iB, iC, iD, *])
    | (apply ER_guard; (case hb => (simp only [push_cast, reduceIte, nA, nB, nC, reduceCtorEq, nD, nE, nF, nG, iA, iB, iC, iD]; rfl)); all_goals ((intro hc; first | (exfalso; simp only [push_cast, reduceIte, nA, nB, nC, reduceCtorEq, nD, nE, nF, nG, iA, iB, iC, iD, *] at hc; done) | (exact absurd hc (by decide)) | (with_reducible (have hcc : true = true := hc); clear hcc hc) | (with_reducible (have hcc : false = false := hc); clear hcc hc) | ((try simp only [Bool.not_true, Bool.not_false] at hc); (first | (with_reducible (have hcc : true = true := hc); clear hcc hc) | (with_reducible (have hcc : false = false := hc); clear hcc hc) | (have hp := hc; (try simp only [decide_eq_true_eq, decide_eq_false_iff_not, bA, bB, bC, bD, bE, bF, bG, bH] at hp))))) <;> try simp only [push_cast, reduceIte, nA, nB, nC, reduceCtorEq, nD, nE, nF, nG, iA, iB, iC, iD, *]))
    | fail)
  have hR : R = _ := hR
  have h5 := (hown'.turn (m := ps) (by rw [upd_ne d2, upd_ne d1]; exact upd_same _ _ _) (boxR ⟨se, nx + 1, b ++ [e], ro⟩ x')).turn (m := n) (by rw [upd_ne (Ne.symm d2)]; exact upd_same _ _ _) (boxR ⟨se, nx + 1, b ++ [e], ro⟩ x')
  refine ⟨R, H, (h5.weak (r' := R) fun F F' hF hi ho => ?_).trans (Weak.less ?_), rfl, rfl⟩
  · rw [hR]
    simp only [Rcv.av, List.map_append, List.map_cons, List.map_nil]
    (intros; repeat (first | assumption | exact Imp.refl (Mem.le.refl _) _ | exact Imp.refl (by assumption) _ | exact Imp.nil_l _ | refine Imp.t ?_ | refine Imp.g ?_ | exact Imps.nil | refine Imps.cons ?_ (by intro hh; first | rfl | (cases hh; done)) ?_))
  · intro m k hm
    have e1 : m ≠ ps := by rintro rfl; rw [h1] at hm; cases hm
    have e2 : m ≠ pp := by rintro rfl; rw [h2.2] at hm; cases hm
    have e3 : m ≠ n := by rintro rfl; rw [hn.2.2] at hm; cases hm
    rw [upd_ne e3, upd_ne e1, upd_ne e3, upd_ne e2, upd_ne e1]; exact hm
theorem sendT_yes {s : Snd} {k : Nat} {x : El} (hx : s.q[k]? = some x) (h : s.ba + (k : Int) ≤ s.li) : ((pkL s).take (k + 1)).filter (fun p => decide (p.sq ≤ s.li)) = ((pkL s).take k).filter (fun p => decide (p.sq ≤ s.li)) ++ [pkAt s k x] := by
  rw [take_snoc (pkL_get hx), List.filter_append]; simp [pkAt, h]
theorem sendT_no {s : Snd} {k : Nat} {x : El} (hx : s.q[k]? = some x) (h : ¬ s.ba + (k : Int) ≤ s.li) : ((pkL s).take (k + 1)).filter (fun p => decide (p.sq ≤ s.li)) = ((pkL s).take k).filter (fun p => decide (p.sq ≤ s.li)) := by
  rw [take_snoc (pkL_get hx), List.filter_append]; simp [pkAt, h]
theorem rsend_p (s : Snd) (hok : sndOk s = true) : Pure Try.prog 18 [.g (Snd.av s)] (.l 9 ((sendL s).map Pk.av)) := by
  intro H
  have h8 := sndOk_len hok
  have hb := sndOk_ba hok
  refine ACall_of' Try.func18 rfl (Ent_of Try.func18 (by kernel_rfl) rfl) (by simp [Try.ntmps18]) ?_; simp only [Try.ntmps18, Try.results18]
  simp only [Snd.av]
  repeat' (first
    | refine AW_seq_kn fun K hK => ?_
    | refine AW_block ?_
    | ((first
      | refine AW_region E1 ?_ | refine AW_ret ?_ | refine AW_exit ?_ | refine AW_skip ?_ | unfold retQ); try simp only [push_cast, reduceIte, nA, nB, nC, reduceCtorEq, nD, nE, nF, nG, iA, iB, iC, iD, *])
    | (apply AW_cond; (case hc => (simp only [push_cast, reduceIte, nA, nB, nC, reduceCtorEq, nD, nE, nF, nG, iA, iB, iC, iD]; rfl)); all_goals (intro hc; first | (exfalso; simp only [push_cast, reduceIte, nA, nB, nC, reduceCtorEq, nD, nE, nF, nG, iA, iB, iC, iD, *] at hc; done) | (exact absurd hc (by decide)) | (with_reducible (have hcc : true = true := hc); clear hcc hc) | (with_reducible (have hcc : false = false := hc); clear hcc hc) | ((try simp only [Bool.not_true, Bool.not_false] at hc); (first | (with_reducible (have hcc : true = true := hc); clear hcc hc) | (with_reducible (have hcc : false = false := hc); clear hcc hc) | (have hp := hc; (try simp only [decide_eq_true_eq, decide_eq_false_iff_not, bA, bB, bC, bD, bE, bF, bG, bH] at hp))))))
    | (refine Kn.go hK ?_; clear hK K)
    | refine Kn.go (by assumption) ?_
    | (intro n hn; (try simp only [upd_none2, join_none_iff, ite_none, ne_eq] at hn); (try simp only [push_cast, reduceIte, nA, nB, nC, reduceCtorEq, nD, nE, nF, nG, iA, iB, iC, iD, *]))
    | (intro hc)
    | fail)
  generalize n = nb at *
  refine AW_loopX (σ := AV × Heap) s.q.length (fun k t => OwnL t.2 t.1 35 9 ((((pkL s).take k).filter (fun p => decide (p.sq ≤ s.li))).map Pk.av) (upd H nb (.r 26 5 1 [Snd.av s]))) (fun k t => [(1, .p nb 5 0 0), (3, t.1), (8, .l 5 (s.q.map El.av)), (9, ci s.q.length), (10, ci k)]) (fun _ t => t.2) (.c (.slice none 0 0), upd H nb (.r 26 5 1 [Snd.av s])) (.inl ⟨⟨_, rfl⟩, rfl, rfl⟩) ?_ ?_ ?_ ?_
  · (first | trivial | (simp only [push_cast, reduceIte, nA, nB, nC, reduceCtorEq, nD, nE, nF, nG, iA, iB, iC, iD, *]; done))
  · (first | trivial | ((simp only [push_cast, reduceIte, nA, nB, nC, reduceCtorEq, nD, nE, nF, nG, iA, iB, iC, iD, *]); repeat' (first | rfl | exact Heap.le_refl _ | refine And.intro ?_ ?_)))
  · rintro k ⟨y, B⟩ hk hown
    simp only at hown
    have hxl : s.q.length < 1000 := by omega
    have hx := List.getElem?_eq_getElem (l := s.q) hk
    generalize s.q[k] = x at hx
    have hkl : (k : Int) < s.q.length := by omega
    have hkw : IntKind.i64.wrap ((k : Int) + 1) = (k : Int) + 1 := wrap_i64 (by omega) (by omega)
    have hw1 : IntKind.u64.wrap (k : Int) = k := wrap_u64 (by omega) (by omega)
    have hw2 : IntKind.u64.wrap (s.ba + (k : Int)) = s.ba + k := wrap_u64 (by omega) (by omega)
    have hkt := hown.get (upd_same _ _ _)
    have hcs := hown.cs
    have hne := ne_old hkt
    have hfl : (((pkL s).take k).filter (fun p => decide (p.sq ≤ s.li))).length ≤ 1000 := by
      have h1 := List.length_filter_le (fun p : Pk => decide (p.sq ≤ s.li)) ((pkL s).take k)
      have h2 : ((pkL s).take k).length ≤ (pkL s).length := List.length_take_le' _ _
      rw [pkL_len] at h2
      omega
    by_cases hgo : s.ba + (k : Int) ≤ s.li
    · rw [sendT_yes hx hgo]
      generalize ((pkL s).take k).filter (fun p => decide (p.sq ≤ s.li)) = L at hown hfl
      repeat' (first
    | refine AW_seq_kn fun K hK => ?_
    | refine AW_block ?_
    | ((first
      | refine AW_region E1 ?_ | refine AW_ret ?_ | refine AW_exit ?_ | refine AW_skip ?_ | unfold retQ); try simp only [push_cast, reduceIte, nA, nB, nC, reduceCtorEq, nD, nE, nF, nG, iA, iB, iC, iD, *])
    | (apply AW_cond; (case hc => (simp only [push_cast, reduceIte, nA, nB, nC, reduceCtorEq, nD, nE, nF, nG, iA, iB, iC, iD]; rfl)); all_goals (intro hc; first | (exfalso; simp only [push_cast, reduceIte, nA, nB, nC, reduceCtorEq, nD, nE, nF, nG, iA, iB, iC, iD, *] at hc; done) | (exact absurd hc (by decide)) | (with_reducible (have hcc : true = true := hc); clear hcc hc) | (with_reducible (have hcc : false = false := hc); clear hcc hc) | ((try simp only [Bool.not_true, Bool.not_false] at hc); (first | (with_reducible (have hcc : true = true := hc); clear hcc hc) | (with_reducible (have hcc : false = false := hc); clear hcc hc) | (have hp := hc; (try simp only [decide_eq_true_eq, decide_eq_false_iff_not, bA, bB, bC, bD, bE, bF, bG, bH] at hp))))))
    | (refine Kn.go hK ?_; clear hK K)
    | refine Kn.go (by assumption) ?_
    | (intro n hn; (try simp only [upd_none2, join_none_iff, ite_none, ne_eq] at hn); (try simp only [push_cast, reduceIte, nA, nB, nC, reduceCtorEq, nD, nE, nF, nG, iA, iB, iC, iD, *]))
    | (intro hc)
    | fail)
      rename_i nr hnr
      refine does_app1 rfl rfl rfl rfl (hown.new hnr _) ?_ tE44 tS35 tB35 tZ35 rfl (by decide) ?_ ?_ ?_
      · simp only [upd_none2, ne_eq, *]; simp
      · simp only [List.length_map, maxLen]; omega
      · simp only [List.length_map]; omega
      intro x' H' hown'
      (try simp only [push_cast, reduceIte, nA, nB, nC, reduceCtorEq, nD, nE, nF, nG, iA, iB, iC, iD, *])
      repeat' (first
    | refine AW_seq_kn fun K hK => ?_
    | refine AW_block ?_
    | ((first
      | refine AW_region E1 ?_ | refine AW_ret ?_ | refine AW_exit ?_ | refine AW_skip ?_ | unfold retQ); try simp only [push_cast, reduceIte, nA, nB, nC, reduceCtorEq, nD, nE, nF, nG, iA, iB, iC, iD, *])
    | (apply AW_cond; (case hc => (simp only [push_cast, reduceIte, nA, nB, nC, reduceCtorEq, nD, nE, nF, nG, iA, iB, iC, iD]; rfl)); all_goals (intro hc; first | (exfalso; simp only [push_cast, reduceIte, nA, nB, nC, reduceCtorEq, nD, nE, nF, nG, iA, iB, iC, iD, *] at hc; done) | (exact absurd hc (by decide)) | (with_reducible (have hcc : true = true := hc); clear hcc hc) | (with_reducible (have hcc : false = false := hc); clear hcc hc) | ((try simp only [Bool.not_true, Bool.not_false] at hc); (first | (with_reducible (have hcc : true = true := hc); clear hcc hc) | (with_reducible (have hcc : false = false := hc); clear hcc hc) | (have hp := hc; (try simp only [decide_eq_true_eq, decide_eq_false_iff_not, bA, bB, bC, bD, bE, bF, bG, bH] at hp))))))
    | (refine Kn.go hK ?_; clear hK K)
    | refine Kn.go (by assumption) ?_
    | (intro n hn; (try simp only [upd_none2, join_none_iff, ite_none, ne_eq] at hn); (try simp only [push_cast, reduceIte, nA, nB, nC, reduceCtorEq, nD, nE, nF, nG, iA, iB, iC, iD, *]))
    | (intro hc)
    | fail)
      have h5 := hown'.dele (m := nr) (upd_same _ _ _)
      rw [del_upd_same (hown.none hnr)] at h5
      refine ⟨(x', del H' nr), ⟨?_, by (first | trivial | (simp only [push_cast, reduceIte, nA, nB, nC, reduceCtorEq, nD, nE, nF, nG, iA, iB, iC, iD, *]; done)), del_le _ _⟩⟩
      rw [List.map_append]; exact h5
    · rw [sendT_no hx hgo]
      generalize ((pkL s).take k).filter (fun p => decide (p.sq ≤ s.li)) = L at hown hfl
      repeat' (first
    | refine AW_seq_kn fun K hK => ?_
    | refine AW_block ?_
    | ((first
      | refine AW_region E1 ?_ | refine AW_ret ?_ | refine AW_exit ?_ | refine AW_skip ?_ | unfold retQ); try simp only [push_cast, reduceIte, nA, nB, nC, reduceCtorEq, nD, nE, nF, nG, iA, iB, iC, iD, *])
    | (apply AW_cond; (case hc => (simp only [push_cast, reduceIte, nA, nB, nC, reduceCtorEq, nD, nE, nF, nG, iA, iB, iC, iD]; rfl)); all_goals (intro hc; first | (exfalso; simp only [push_cast, reduceIte, nA, nB, nC, reduceCtorEq, nD, nE, nF, nG, iA, iB, iC, iD, *] at hc; done) | (exact absurd hc (by decide)) | (with_reducible (have hcc : true = true := hc); clear hcc hc) | (with_reducible (have hcc : false = false := hc); clear hcc hc) | ((try simp only [Bool.not_true, Bool.not_false] at hc); (first | (with_reducible (have hcc : true = true := hc); clear hcc hc) | (with_reducible (have hcc : false = false := hc); clear hcc hc) | (have hp := hc; (try simp only [decide_eq_true_eq, decide_eq_false_iff_not, bA, bB, bC, bD, bE, bF, bG, bH] at hp))))))
    | (refine Kn.go hK ?_; clear hK K)
    | refine Kn.go (by assumption) ?_
    | (intro n hn; (try simp only [upd_none2, join_none_iff, ite_none, ne_eq] at hn); (try simp only [push_cast, reduceIte, nA, nB, nC, reduceCtorEq, nD, nE, nF, nG, iA, iB, iC, iD, *]))
    | (intro hc)
    | fail)
      exact ⟨(y, B), ⟨hown, by (first | trivial | (simp only [push_cast, reduceIte, nA, nB, nC, reduceCtorEq, nD, nE, nF, nG, iA, iB, iC, iD, *]; done)), by (first | trivial | ((simp only [push_cast, reduceIte, nA, nB, nC, reduceCtorEq, nD, nE, nF, nG, iA, iB, iC, iD, *]); repeat' (first | rfl | exact Heap.le_refl _ | refine And.intro ?_ ?_)))⟩⟩
  · rintro ⟨y, B⟩ hown
    have e : (pkL s).take s.q.length = pkL s := List.take_of_length_le (by rw [pkL_len]; exact Nat.le_refl _)
    simp only [e] at hown
    repeat' (first
    | refine AW_seq_kn fun K hK => ?_
    | refine AW_block ?_
    | ((first
      | refine AW_region E1 ?_ | refine AW_ret ?_ | refine AW_exit ?_ | refine AW_skip ?_ | unfold retQ); try simp only [push_cast, reduceIte, nA, nB, nC, reduceCtorEq, nD, nE, nF, nG, iA, iB, iC, iD, *])
    | (apply AW_cond; (case hc => (simp only [push_cast, reduceIte, nA, nB, nC, reduceCtorEq, nD, nE, nF, nG, iA, iB, iC, iD]; rfl)); all_goals (intro hc; first | (exfalso; simp only [push_cast, reduceIte, nA, nB, nC, reduceCtorEq, nD, nE, nF, nG, iA, iB, iC, iD, *] at hc; done) | (exact absurd hc (by decide)) | (with_reducible (have hcc : true = true := hc); clear hcc hc) | (with_reducible (have hcc : false = false := hc); clear hcc hc) | ((try simp only [Bool.not_true, Bool.not_false] at hc); (first | (with_reducible (have hcc : true = true := hc); clear hcc hc) | (with_reducible (have hcc : false = false := hc); clear hcc hc) | (have hp := hc; (try simp only [decide_eq_true_eq, decide_eq_false_iff_not, bA, bB, bC, bD, bE, bF, bG, bH] at hp))))))
    | (refine Kn.go hK ?_; clear hK K)
    | refine Kn.go (by assumption) ?_
    | (intro n hn; (try simp only [upd_none2, join_none_iff, ite_none, ne_eq] at hn); (try simp only [push_cast, reduceIte, nA, nB, nC, reduceCtorEq, nD, nE, nF, nG, iA, iB, iC, iD, *]))
    | (intro hc)
    | fail)
    refine ⟨_, _, (hown.weak fun F F' hF hi _ => hi).trans (Weak.less (by (simp only [push_cast, reduceIte, nA, nB, nC, reduceCtorEq, nD, nE, nF, nG, iA, iB, iC, iD, *]))), rfl, rfl⟩
end Go.Proofs.Yteoepeionomjlaa
