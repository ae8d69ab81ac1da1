/- The layer does something; what arguments are; what is put. -/
import Derived.Test.YtcmpciciodcddaaT
namespace Go.Proofs.Ytcmpciciodcddaa
open Go.RowKit
open Nat renaming reduceEqDiff → nA, reduceLT → nB, reduceLeDiff → nC, reduceAdd → nD, reduceMul → nE, reduceSub → nF, reduceBEq → nG
open Int renaming reduceToNat → iA, reduceLT → iB, reduceLE → iC, reduceEq → iD
open Bool renaming and_eq_true → bA, or_eq_true → bB, or_eq_false_iff → bC, and_eq_false_iff → bD, not_eq_true' → bE, not_eq_false' → bF, not_true → bG, not_false → bH
set_option linter.all false
set_option maxHeartbeats 4000000
attribute [local irreducible] AW Does

set_option maxRecDepth 100000 in
theorem shp_rec {n : Nat} {row : List AV} (h : Shp Try.prog (n + 2) 27 row) : ∃ r : Rec, row = Rec.av r ∧ (True) := by
  have h0 := shp_struct (P := Try.prog) (n := n + 1) [3, 3, 2] Try.underlying27 (by kernel_rfl) h
  obtain ⟨p0, r0, rfl, a0, h1⟩ := shpL_cons h0
  obtain ⟨p1, r1, rfl, a1, h2⟩ := shpL_cons h1
  obtain ⟨p2, r2, rfl, a2, h3⟩ := shpL_cons h2
  cases shpL_nil h3
  obtain ⟨a, rfl, ga⟩ := shp_int tU3 a0
  obtain ⟨b, rfl, gb⟩ := shp_int tU3 a1
  obtain ⟨c, rfl, gc⟩ := shp_int tU2 a2
  exact ⟨⟨a, b, c⟩, rfl, trivial⟩
set_option maxRecDepth 100000 in
theorem shp_el {n : Nat} {row : List AV} (h : Shp Try.prog (n + 3) 29 row) : ∃ e : El, row = El.av e ∧ (True) := by
  have h0 := shp_struct (P := Try.prog) (n := n + 2) [3, 27, 23] Try.underlying29 (by kernel_rfl) h
  obtain ⟨p0, r0, rfl, a0, h1⟩ := shpL_cons h0
  obtain ⟨p1, r1, rfl, a1, h2⟩ := shpL_cons h1
  obtain ⟨p2, r2, rfl, a2, h3⟩ := shpL_cons h2
  cases shpL_nil h3
  obtain ⟨a, rfl, ga⟩ := shp_int tU3 a0
  obtain ⟨r, rfl, gr⟩ := shp_rec a1
  obtain ⟨c, rfl, gc⟩ := shp_int tU23 a2
  exact ⟨⟨a, r.s, r.k, r.v, c⟩, rfl, trivial⟩
set_option maxRecDepth 100000 in
theorem shp_els {n : Nat} {row : List AV} (h : Shp Try.prog (n + 4) 37 row) : ∃ l : List El, row = [.l 5 (l.map El.av)] ∧ l.length ≤ maxLen ∧ ∀ e ∈ l, True := by
  obtain ⟨l, rfl, hl, hg⟩ := shp_slice (P := Try.prog) (n := n + 3) (f := El.av) (good := fun e : El => True) (sz := 5) tU37 (by kernel_rfl) (fun r hr => by obtain ⟨x, e, g⟩ := shp_el hr; exact ⟨x, e, by first | exact g | trivial⟩) h
  exact ⟨l, rfl, hl, hg⟩
set_option maxRecDepth 100000 in
theorem shp_qu {n : Nat} {row : List AV} (h : Shp Try.prog (n + 5) 39 row) : ∃ q : Qu, row = Qu.av q ∧ (q.el.length ≤ maxLen ∧ 0 ≤ q.la) := by
  have h0 := shp_struct (P := Try.prog) (n := n + 4) [37, 23, 4, 4] Try.underlying39 (by kernel_rfl) h
  obtain ⟨p0, r0, rfl, a0, h1⟩ := shpL_cons h0
  obtain ⟨p1, r1, rfl, a1, h2⟩ := shpL_cons h1
  obtain ⟨p2, r2, rfl, a2, h3⟩ := shpL_cons h2
  obtain ⟨p3, r3, rfl, a3, h4⟩ := shpL_cons h3
  cases shpL_nil h4
  obtain ⟨l, rfl, gl⟩ := shp_els a0
  obtain ⟨a, rfl, ga⟩ := shp_int tU23 a1
  obtain ⟨b, rfl⟩ := shp_bool tU4 a2
  obtain ⟨c, rfl⟩ := shp_bool tU4 a3
  exact ⟨⟨l, a, b, c⟩, rfl, ⟨gl.1, (bnd_u64 ga).1⟩⟩
set_option maxRecDepth 100000 in
theorem shp_qus {n : Nat} {row : List AV} (h : Shp Try.prog (n + 6) 22 row) : ∃ l : List Qu, row = [.l 4 (l.map Qu.av)] ∧ l.length ≤ maxLen ∧ ∀ q ∈ l, q.el.length ≤ maxLen ∧ 0 ≤ q.la := by
  obtain ⟨l, rfl, hl, hg⟩ := shp_slice (P := Try.prog) (n := n + 5) (f := Qu.av) (good := fun q : Qu => q.el.length ≤ maxLen ∧ 0 ≤ q.la) (sz := 4) tU22 (by kernel_rfl) (fun r hr => by obtain ⟨x, e, g⟩ := shp_qu hr; exact ⟨x, e, by first | exact g | trivial⟩) h
  exact ⟨l, rfl, hl, hg⟩
set_option maxRecDepth 100000 in
theorem shp_gt {n : Nat} {row : List AV} (h : Shp Try.prog (n + 7) 25 row) : ∃ g : Gt, row = Gt.av g ∧ (Wf g) := by
  have h0 := shp_struct (P := Try.prog) (n := n + 6) [22, 23, 23] Try.underlying25 (by kernel_rfl) h
  obtain ⟨p0, r0, rfl, a0, h1⟩ := shpL_cons h0
  obtain ⟨p1, r1, rfl, a1, h2⟩ := shpL_cons h1
  obtain ⟨p2, r2, rfl, a2, h3⟩ := shpL_cons h2
  cases shpL_nil h3
  obtain ⟨l, rfl, gl⟩ := shp_qus a0
  obtain ⟨a, rfl, ga⟩ := shp_int tU23 a1
  obtain ⟨b, rfl, gb⟩ := shp_int tU23 a2
  exact ⟨⟨l, a, b⟩, rfl, ⟨gl.1, fun q hq => (gl.2 q hq).1, fun q hq => (gl.2 q hq).2, (bnd_u64 ga).1⟩⟩
theorem Sm.lens {g : Gt} (h : Sm g) : Lens g := ⟨by have := h.l; unfold maxLen; omega, fun q hq => by have := h.q q hq; unfold maxLen; omega⟩
theorem ov_sm {g : Gt} (h : ovS g = false) : Sm g := by
  simp only [ovS, Bool.or_eq_false_iff, decide_eq_false_iff_not, List.any_eq_false, decide_eq_true_eq] at h
  exact ⟨by omega, fun q hq => by have := h.2 q hq; omega⟩
theorem pushS_lens {g : Gt} (n : Int) (e : El) (h : Sm g) : Lens (pushS g n e) := by
  have hz : Lens zGt := ⟨by simp [zGt], fun q hq => by simp [zGt] at hq⟩
  unfold pushS
  split
  · split
    · exact hz
    · rename_i q hq
      refine ⟨by simp [withS]; have := h.l; unfold maxLen; omega, fun x hx => ?_⟩
      rcases List.mem_or_eq_of_mem_set hx with hx | rfl
      · exact h.lens.q x hx
      · have := h.q q (List.mem_of_getElem? hq)
        simp [pushQ, maxLen]; omega
  · exact hz
set_option maxRecDepth 20000 in
theorem wakes15_p : Pure Try.prog 9 [] (.c (.bool true)) := by
  intro H
  have hw : ∀ (l : List El) (a b : Int), l.length ≤ 5 → Lens ⟨[⟨l, a, false, false⟩], b, 0⟩ := fun l a b hl => ⟨by simp [maxLen], fun q hq => by simp at hq; subst hq; simp [maxLen]; omega⟩
  have o1 := new_p 1
  have o2 := push_p ⟨[⟨[], 0, false, false⟩], 0, 0⟩ 0 ⟨1, 0, 3, 0, 0⟩ (hw _ _ _ (by simp)) (by simp)
  have o3 := push_p ⟨[⟨[⟨1, 0, 3, 0, 0⟩], 0, false, false⟩], 0, 0⟩ 0 ⟨2, 0, 0, 0, 7⟩ (hw _ _ _ (by simp)) (by simp)
  have o4 := take_p ⟨[⟨[⟨1, 0, 3, 0, 0⟩, ⟨2, 0, 0, 0, 7⟩], 7, false, false⟩], 0, 0⟩ 0 (hw _ _ _ (by simp)) (by simp)
  have o5 := take_p ⟨[⟨[⟨2, 0, 0, 0, 7⟩], 7, false, false⟩], 0, 0⟩ 0 (hw _ _ _ (by simp)) (by simp)
  have p2 : pushS ⟨[⟨[], 0, false, false⟩], 0, 0⟩ 0 ⟨1, 0, 3, 0, 0⟩ = ⟨[⟨[⟨1, 0, 3, 0, 0⟩], 0, false, false⟩], 0, 0⟩ := by decide
  have q2 : pushE ⟨[⟨[], 0, false, false⟩], 0, 0⟩ 0 ⟨1, 0, 3, 0, 0⟩ = 0 := by decide
  have p3 : pushS ⟨[⟨[⟨1, 0, 3, 0, 0⟩], 0, false, false⟩], 0, 0⟩ 0 ⟨2, 0, 0, 0, 7⟩ = ⟨[⟨[⟨1, 0, 3, 0, 0⟩, ⟨2, 0, 0, 0, 7⟩], 7, false, false⟩], 0, 0⟩ := by decide
  have q3 : pushE ⟨[⟨[⟨1, 0, 3, 0, 0⟩], 0, false, false⟩], 0, 0⟩ 0 ⟨2, 0, 0, 0, 7⟩ = 0 := by decide
  have p4 : takR ⟨[⟨[⟨1, 0, 3, 0, 0⟩, ⟨2, 0, 0, 0, 7⟩], 7, false, false⟩], 0, 0⟩ 0 = .t [.g (Gt.av ⟨[⟨[⟨2, 0, 0, 0, 7⟩], 7, false, false⟩], 0, 0⟩), .g (El.av ⟨1, 0, 3, 0, 0⟩), .c (.bool true), .c (.int .i64 0)] := by rfl
  have p5 : takR ⟨[⟨[⟨2, 0, 0, 0, 7⟩], 7, false, false⟩], 0, 0⟩ 0 = .t [.g (Gt.av ⟨[⟨[], 7, false, false⟩], 0, 7⟩), .g (El.av ⟨2, 0, 0, 0, 7⟩), .c (.bool true), .c (.int .i64 0)] := by rfl
  rw [if_pos (by decide), if_pos (by decide)] at o1
  rw [p2, q2] at o2
  rw [p3, q3] at o3
  rw [p4] at o4
  rw [p5] at o5
  clear p2 q2 p3 q3 p4 p5 hw
  simp only [Gt.av, Qu.av, El.av, List.map_nil, List.map_cons, List.replicate_succ, List.replicate_zero, Int.toNat_one] at o1 o2 o3 o4 o5
  refine ACall_of' Try.func9 rfl (Ent_of Try.func9 (by kernel_rfl) rfl) (by simp [Try.ntmps9]) ?_; simp only [Try.ntmps9, Try.results9]
  repeat' (first
    | refine AW_seq_kn fun K hK => ?_
    | refine AW_block ?_
    | (refine does_call rfl rfl ?_; simp only [push_cast, reduceIte, nA, nB, nC, reduceCtorEq, nD, nE, nF, nG, iA, iB, iC, iD]; refine ACall.mono (o1 _) ?_; (rintro _ _ ⟨rfl, e2⟩; have e3 := e2.symm; clear e2; subst e3); (try simp only [push_cast, reduceIte, nA, nB, nC, reduceCtorEq, nD, nE, nF, nG, iA, iB, iC, iD, *]))
    | (refine does_call rfl rfl ?_; simp only [push_cast, reduceIte, nA, nB, nC, reduceCtorEq, nD, nE, nF, nG, iA, iB, iC, iD]; refine ACall.mono (o2 _) ?_; (rintro _ _ ⟨rfl, e2⟩; have e3 := e2.symm; clear e2; subst e3); (try simp only [push_cast, reduceIte, nA, nB, nC, reduceCtorEq, nD, nE, nF, nG, iA, iB, iC, iD, *]))
    | (refine does_call rfl rfl ?_; simp only [push_cast, reduceIte, nA, nB, nC, reduceCtorEq, nD, nE, nF, nG, iA, iB, iC, iD]; refine ACall.mono (o3 _) ?_; (rintro _ _ ⟨rfl, e2⟩; have e3 := e2.symm; clear e2; subst e3); (try simp only [push_cast, reduceIte, nA, nB, nC, reduceCtorEq, nD, nE, nF, nG, iA, iB, iC, iD, *]))
    | (refine does_call rfl rfl ?_; simp only [push_cast, reduceIte, nA, nB, nC, reduceCtorEq, nD, nE, nF, nG, iA, iB, iC, iD]; refine ACall.mono (o4 _) ?_; (rintro _ _ ⟨rfl, e2⟩; have e3 := e2.symm; clear e2; subst e3); (try simp only [push_cast, reduceIte, nA, nB, nC, reduceCtorEq, nD, nE, nF, nG, iA, iB, iC, iD, *]))
    | (refine does_call rfl rfl ?_; simp only [push_cast, reduceIte, nA, nB, nC, reduceCtorEq, nD, nE, nF, nG, iA, iB, iC, iD]; refine ACall.mono (o5 _) ?_; (rintro _ _ ⟨rfl, e2⟩; have e3 := e2.symm; clear e2; subst e3); (try simp only [push_cast, reduceIte, nA, nB, nC, reduceCtorEq, nD, nE, nF, nG, iA, iB, iC, iD, *]))
    | ((first
      | refine AW_region E1 ?_ | refine AW_ret ?_ | refine AW_exit ?_ | refine AW_skip ?_ | unfold retQ); try simp only [push_cast, reduceIte, nA, nB, nC, reduceCtorEq, nD, nE, nF, nG, iA, iB, iC, iD, *])
    | (apply AW_cond; (case hc => (simp only [push_cast, reduceIte, nA, nB, nC, reduceCtorEq, nD, nE, nF, nG, iA, iB, iC, iD]; rfl)); all_goals (intro hc; first | (exfalso; simp only [push_cast, reduceIte, nA, nB, nC, reduceCtorEq, nD, nE, nF, nG, iA, iB, iC, iD, *] at hc; done) | (exact absurd hc (by decide)) | (with_reducible (have hcc : true = true := hc); clear hcc hc) | (with_reducible (have hcc : false = false := hc); clear hcc hc) | ((try simp only [Bool.not_true, Bool.not_false] at hc); (first | (with_reducible (have hcc : true = true := hc); clear hcc hc) | (with_reducible (have hcc : false = false := hc); clear hcc hc) | (have hp := hc; (try simp only [decide_eq_true_eq, decide_eq_false_iff_not, bA, bB, bC, bD, bE, bF, bG, bH] at hp))))))
    | (refine Kn.go hK ?_; clear hK K)
    | refine Kn.go (by assumption) ?_
    | (intro n hn; (try simp only [upd_none2, join_none_iff, ite_none, ne_eq] at hn); (try simp only [push_cast, reduceIte, nA, nB, nC, reduceCtorEq, nD, nE, nF, nG, iA, iB, iC, iD, *]))
    | (intro hc)
    | (apply ER_blk; (case hp => rfl); (case hb => (simp only [push_cast, reduceIte, nA, nB, nC, reduceCtorEq, nD, nE, nF, nG, iA, iB, iC, iD]; rfl)); (case hd => (simp only [push_cast, reduceIte, nA, nB, nC, reduceCtorEq, nD, nE, nF, nG, iA, iB, iC, iD]; done)); (case h => (intro hc; simp only [push_cast, reduceIte, nA, nB, nC, reduceCtorEq, nD, nE, nF, nG, iA, iB, iC, iD, *]; rfl)); simp only [push_cast, reduceIte, nA, nB, nC, reduceCtorEq, nD, nE, nF, nG, iA, iB, iC, iD, *])
    | (apply ER_guard; (case hb => (simp only [push_cast, reduceIte, nA, nB, nC, reduceCtorEq, nD, nE, nF, nG, iA, iB, iC, iD]; rfl)); all_goals ((intro hc; first | (exfalso; simp only [push_cast, reduceIte, nA, nB, nC, reduceCtorEq, nD, nE, nF, nG, iA, iB, iC, iD, *] at hc; done) | (exact absurd hc (by decide)) | (with_reducible (have hcc : true = true := hc); clear hcc hc) | (with_reducible (have hcc : false = false := hc); clear hcc hc) | ((try simp only [Bool.not_true, Bool.not_false] at hc); (first | (with_reducible (have hcc : true = true := hc); clear hcc hc) | (with_reducible (have hcc : false = false := hc); clear hcc hc) | (have hp := hc; (try simp only [decide_eq_true_eq, decide_eq_false_iff_not, bA, bB, bC, bD, bE, bF, bG, bH] at hp))))) <;> try simp only [push_cast, reduceIte, nA, nB, nC, reduceCtorEq, nD, nE, nF, nG, iA, iB, iC, iD, *]))
    | fail)
  exact ⟨_, _, Weak.less (by (simp only [push_cast, reduceIte, nA, nB, nC, reduceCtorEq, nD, nE, nF, nG, iA, iB, iC, iD, *])), rfl, rfl⟩
end Go.Proofs.Ytcmpciciodcddaa
