/- Walks: the document on the rows of a share. -/
import Derived.Test.YtmkncbddjnaklaaUC
import Derived.Test.YtmkncbddjnaklaaTC2
namespace Go.Proofs.Ytmkncbddjnaklaa
open Go.RowKit
open Nat renaming reduceEqDiff → nA, reduceLT → nB, reduceLeDiff → nC, reduceAdd → nD, reduceMul → nE, reduceSub → nF, reduceBEq → nG
open Int renaming reduceToNat → iA, reduceLT → iB, reduceLE → iC, reduceEq → iD
open Bool renaming and_eq_true → bA, or_eq_true → bB, or_eq_false_iff → bC, and_eq_false_iff → bD, not_eq_true' → bE, not_eq_false' → bF, not_true → bG, not_false → bH
set_option linter.all false
set_option maxHeartbeats 4000000
attribute [local irreducible] AW Does ACall tE tS tB tZ

theorem nil_tab2 {F : Mem} {e : AV} : Imp F F (.t [.g [.c (.slice none 0 0)], e]) (.t [.g [.l 4 []], e]) := Imp.t (Imps.cons (Imp.g (Imps.cons (Imp.nil_l 4) (fun _ => rfl) Imps.nil)) id (Imps.cons (Imp.refl (Mem.le.refl F) _) id Imps.nil))
theorem rpart_p (l : List KC) (hl : l.length ≤ 100000) (i w : Int) : Pure Try.prog 44 [.g [.l 4 (l.map KC.av)], ci i, ci w] (.t [.g [.l 4 ((partS l i w).1.map KC.av)], .c (.int .i64 (partS l i w).2)]) := by
  intro H
  have hP : partS l i w = if tOk l = false then ([], 220) else if shareS i w = true then (l.filter (fun x => mineS (keyS x) i w), 0) else ([], 2) := rfl
  have hri := tright_p l (by unfold maxLen; omega)
  have hsh := share7_p i w
  generalize partS l i w = D at *
  obtain ⟨D1, D2⟩ := D
  cases ht : tOk l
  · rw [ht] at hri hP
    simp only [Bool.false_eq_true, if_false, if_true, vBF, Prod.mk.injEq] at hri hP
    obtain ⟨rfl, rfl⟩ := hP
    clear hsh
    refine ACall_of' Try.func44 rfl (Ent_of Try.func44 (by kernel_rfl) rfl) (by simp [Try.ntmps44]) ?_; simp only [Try.ntmps44, Try.results44]
    repeat' (first
    | refine AW_seq_kn fun K hK => ?_
    | refine AW_block ?_
    | (refine does_call rfl rfl ?_; simp only [push_cast, seval, *]; refine ACall.monoP (hri _) ?_; (try simp only [push_cast, seval, *]))
    | (refine does_call rfl rfl ?_; simp only [push_cast, seval, *]; refine ACall.monoP (rkey_p ⟨_, _, _, _⟩ _) ?_; (try simp only [push_cast, seval, *]))
    | ((first
      | refine AW_region E0 ?_ | refine AW_ret ?_ | refine AW_exit ?_ | refine AW_skip ?_ | unfold retQ); try simp only [push_cast, seval, *])
    | (apply AW_cond; (case hc => (simp only [push_cast, seval]; rfl)); all_goals (intro hc; first | (exfalso; simp only [push_cast, seval, *] at hc; done) | (exact absurd hc (by decide)) | ((try first | rw [Bool.not_true] at hc | rw [Bool.not_false] at hc); first | (with_reducible replace hc := tTT hc); clear hc | (with_reducible replace hc := tFF hc); clear hc | (have hp := hc; try simp only [decide_eq_true_eq, decide_eq_false_iff_not, bA, bB, bC, bD, bE, bF, bG, bH] at hp))))
    | (refine Kn.go hK ?_; clear hK K)
    | refine Kn.go (by assumption) ?_
    | (intro n hn; (try simp only [upd_none2, join_none_iff, ite_none, ne_eq] at hn); (try simp only [push_cast, seval, *]))
    | (intro hc)
    | fail)
    exact ⟨_, _, Weak.imp (fun F => nil_tab2) (by (simp only [push_cast, seval, *])), rfl, rfl⟩
  cases hs : shareS i w
  · rw [ht, hs] at hP
    rw [ht] at hri
    rw [hs] at hsh
    simp only [Bool.true_eq_false, Bool.false_eq_true, if_false, if_true, vBT, Prod.mk.injEq] at hri hP
    obtain ⟨rfl, rfl⟩ := hP
    refine ACall_of' Try.func44 rfl (Ent_of Try.func44 (by kernel_rfl) rfl) (by simp [Try.ntmps44]) ?_; simp only [Try.ntmps44, Try.results44]
    repeat' (first
    | refine AW_seq_kn fun K hK => ?_
    | refine AW_block ?_
    | (refine does_call rfl rfl ?_; simp only [push_cast, seval, *]; refine ACall.monoP (hri _) ?_; (try simp only [push_cast, seval, *]))
    | (refine does_call rfl rfl ?_; simp only [push_cast, seval, *]; refine ACall.monoP (hsh _) ?_; (try simp only [push_cast, seval, *]))
    | (refine does_call rfl rfl ?_; simp only [push_cast, seval, *]; refine ACall.monoP (rkey_p ⟨_, _, _, _⟩ _) ?_; (try simp only [push_cast, seval, *]))
    | ((first
      | refine AW_region E0 ?_ | refine AW_ret ?_ | refine AW_exit ?_ | refine AW_skip ?_ | unfold retQ); try simp only [push_cast, seval, *])
    | (apply AW_cond; (case hc => (simp only [push_cast, seval]; rfl)); all_goals (intro hc; first | (exfalso; simp only [push_cast, seval, *] at hc; done) | (exact absurd hc (by decide)) | ((try first | rw [Bool.not_true] at hc | rw [Bool.not_false] at hc); first | (with_reducible replace hc := tTT hc); clear hc | (with_reducible replace hc := tFF hc); clear hc | (have hp := hc; try simp only [decide_eq_true_eq, decide_eq_false_iff_not, bA, bB, bC, bD, bE, bF, bG, bH] at hp))))
    | (refine Kn.go hK ?_; clear hK K)
    | refine Kn.go (by assumption) ?_
    | (intro n hn; (try simp only [upd_none2, join_none_iff, ite_none, ne_eq] at hn); (try simp only [push_cast, seval, *]))
    | (intro hc)
    | fail)
    exact ⟨_, _, Weak.imp (fun F => nil_tab2) (by (simp only [push_cast, seval, *])), rfl, rfl⟩
  rw [ht, hs] at hP
  rw [ht] at hri
  rw [hs] at hsh
  simp only [Bool.true_eq_false, if_false, if_true, vBT, Prod.mk.injEq] at hri hP
  obtain ⟨rfl, rfl⟩ := hP
  obtain ⟨p, hpe⟩ : ∃ p : KC → Bool, p = fun x => mineS (keyS x) i w := ⟨_, rfl⟩
  have hpx : ∀ x : KC, Pure Try.prog 82 [.g (Rec.av (keyS x)), ci i, ci w] (.c (.bool (p x))) := fun x => by rw [hpe]; exact mine7_p x.s x.k 0 i w
  rw [← hpe]
  clear hpe
  replace hpx := Lib.hid hpx
  refine ACall_of' Try.func44 rfl (Ent_of Try.func44 (by kernel_rfl) rfl) (by simp [Try.ntmps44]) ?_; simp only [Try.ntmps44, Try.results44]
  repeat' (first
    | refine AW_seq_kn fun K hK => ?_
    | refine AW_block ?_
    | (refine does_call rfl rfl ?_; simp only [push_cast, seval, *]; refine ACall.monoP (hri _) ?_; (try simp only [push_cast, seval, *]))
    | (refine does_call rfl rfl ?_; simp only [push_cast, seval, *]; refine ACall.monoP (hsh _) ?_; (try simp only [push_cast, seval, *]))
    | (refine does_call rfl rfl ?_; simp only [push_cast, seval, *]; refine ACall.monoP (rkey_p ⟨_, _, _, _⟩ _) ?_; (try simp only [push_cast, seval, *]))
    | ((first
      | refine AW_region E0 ?_ | refine AW_ret ?_ | refine AW_exit ?_ | refine AW_skip ?_ | unfold retQ); try simp only [push_cast, seval, *])
    | (apply AW_cond; (case hc => (simp only [push_cast, seval]; rfl)); all_goals (intro hc; first | (exfalso; simp only [push_cast, seval, *] at hc; done) | (exact absurd hc (by decide)) | ((try first | rw [Bool.not_true] at hc | rw [Bool.not_false] at hc); first | (with_reducible replace hc := tTT hc); clear hc | (with_reducible replace hc := tFF hc); clear hc | (have hp := hc; try simp only [decide_eq_true_eq, decide_eq_false_iff_not, bA, bB, bC, bD, bE, bF, bG, bH] at hp))))
    | (refine Kn.go hK ?_; clear hK K)
    | refine Kn.go (by assumption) ?_
    | (intro n hn; (try simp only [upd_none2, join_none_iff, ite_none, ne_eq] at hn); (try simp only [push_cast, seval, *]))
    | (intro hc)
    | fail)
  rename_i n3 h3 n6 h6
  generalize n = m8 at *
  obtain ⟨Gs, hGs⟩ : ∃ Gs : Heap, Gs = upd (upd H n3 (.r 49 1 1 [[.l 4 (l.map KC.av)]])) n6 (.r 49 1 1 [[.c (.slice none 0 0)]]) := ⟨_, rfl⟩
  have g6 : Gs n6 = some (.r 49 1 1 [[.c (.slice none 0 0)]]) := by rw [hGs]; exact upd_same _ _ _
  have hG8 : Gs m8 = none := by rw [hGs]; simp only [upd_none2]; exact hn
  have hle : Heap.le H Gs := by rw [hGs]; (repeat' (first | exact Heap.le_refl _ | refine hle_upd2 ?_ _ _ | (refine Heap.le_new ?_ ?_; rotate_left 1; focus (first | assumption | (simp only [upd_none2, upd_get, ne_eq, push_cast, seval, *]; done) | (simp [upd_get, *]; done)))))
  have hH6 : H n6 = none := h6.2
  rw [← hGs]
  clear hGs h3 h6 hn hri hsh
  have c68 : ¬ n6 = m8 := by rintro rfl; rw [g6] at hG8; cases hG8
  replace hle := Lib.hid hle
  refine AW_loopX (σ := AV × Heap) l.length (fun k w => OwnL w.2 w.1 80 4 (((l.take k).filter p).map KC.av) (upd Gs m8 (bxT w.1))) (fun k s => [(1, ci i), (2, ci w), (6, .p n6 1 0 0), (8, .p m8 1 0 0), (23, .l 4 (l.map KC.av)), (24, ci l.length), (25, ci k)]) (fun _ w => w.2) (.c (.slice none 0 0), upd Gs m8 (bxT (.c (.slice none 0 0)))) (OwnL.nil _ _ _) ?_ ?_ ?_ ?_
  · (first | trivial | (simp only [push_cast, seval, *]; done))
  · exact Heap.le_refl _
  · rintro k ⟨x, B⟩ hk hown
    simp only at hown
    have hy := List.getElem?_eq_getElem (l := l) hk; generalize l[k] = y at hy; have hym := List.mem_of_getElem? hy; have hkl : (k : Int) < l.length := (by omega); have hkw : IntKind.i64.wrap ((k : Int) + 1) = (k : Int) + 1 := wrap_i64 (by omega) (by omega)
    have hty : List.take 4 (KC.av y) = KC.av y := rfl
    have hmi := unhid hpx y
    have htk := take_succ hy
    have hfl : ((l.take k).filter p).length ≤ 100000 := Nat.le_trans (List.length_filter_le _ _) (by simp; omega)
    have hky := rkey_p y
    rw [htk, List.filter_append]
    generalize hC : (l.take k).filter p = C at *
    have k8 := hown.get (m := m8) (upd_same _ _ _)
    have hcs := hown.cs
    have hne8 := ne_old k8
    cases hp : p y
    · rw [hp] at hmi
      obtain ⟨ys, yk, yn, yt⟩ := y
      have hf : List.filter p [(⟨ys, yk, yn, yt⟩ : KC)] = [] := by simp [hp]
      rw [hf, List.append_nil]
      simp only [KC.av, Rec.av, keyS] at hmi hky
      replace hown := Lib.hid hown
      clear hp hf htk hC
      repeat' (first
    | refine AW_seq_kn fun K hK => ?_
    | refine AW_block ?_
    | (refine does_call rfl rfl ?_; simp only [push_cast, seval, *]; refine ACall.monoP (hky _) ?_; (try simp only [push_cast, seval, *]))
    | (refine does_call rfl rfl ?_; simp only [push_cast, seval, *]; refine ACall.monoP (hmi _) ?_; (try simp only [push_cast, seval, *]))
    | (refine does_call rfl rfl ?_; simp only [push_cast, seval, *]; refine ACall.monoP (rkey_p ⟨_, _, _, _⟩ _) ?_; (try simp only [push_cast, seval, *]))
    | ((first
      | refine AW_region E0 ?_ | refine AW_ret ?_ | refine AW_exit ?_ | refine AW_skip ?_ | unfold retQ); try simp only [push_cast, seval, *])
    | (apply AW_cond; (case hc => (simp only [push_cast, seval]; rfl)); all_goals (intro hc; first | (exfalso; simp only [push_cast, seval, *] at hc; done) | (exact absurd hc (by decide)) | ((try first | rw [Bool.not_true] at hc | rw [Bool.not_false] at hc); first | (with_reducible replace hc := tTT hc); clear hc | (with_reducible replace hc := tFF hc); clear hc | (have hp := hc; try simp only [decide_eq_true_eq, decide_eq_false_iff_not, bA, bB, bC, bD, bE, bF, bG, bH] at hp))))
    | (refine Kn.go hK ?_; clear hK K)
    | refine Kn.go (by assumption) ?_
    | (intro n hn; (try simp only [upd_none2, join_none_iff, ite_none, ne_eq] at hn); (try simp only [push_cast, seval, *]))
    | (intro hc)
    | fail)
      exact ⟨(x, B), unhid hown, by (first | trivial | (simp only [push_cast, seval, *]; done)), le_upd_new hn⟩
    · rw [hp] at hmi
      obtain ⟨ys, yk, yn, yt⟩ := y
      have hf : List.filter p [(⟨ys, yk, yn, yt⟩ : KC)] = [⟨ys, yk, yn, yt⟩] := by simp [hp]
      rw [hf]
      simp only [KC.av, Rec.av, keyS] at hmi hky
      replace hown := Lib.hid hown
      clear hp hf htk hC
      repeat' (first
    | refine AW_seq_kn fun K hK => ?_
    | refine AW_block ?_
    | (refine does_call rfl rfl ?_; simp only [push_cast, seval, *]; refine ACall.monoP (hky _) ?_; (try simp only [push_cast, seval, *]))
    | (refine does_call rfl rfl ?_; simp only [push_cast, seval, *]; refine ACall.monoP (hmi _) ?_; (try simp only [push_cast, seval, *]))
    | (refine does_call rfl rfl ?_; simp only [push_cast, seval, *]; refine ACall.monoP (rkey_p ⟨_, _, _, _⟩ _) ?_; (try simp only [push_cast, seval, *]))
    | ((first
      | refine AW_region E0 ?_ | refine AW_ret ?_ | refine AW_exit ?_ | refine AW_skip ?_ | unfold retQ); try simp only [push_cast, seval, *])
    | (apply AW_cond; (case hc => (simp only [push_cast, seval]; rfl)); all_goals (intro hc; first | (exfalso; simp only [push_cast, seval, *] at hc; done) | (exact absurd hc (by decide)) | ((try first | rw [Bool.not_true] at hc | rw [Bool.not_false] at hc); first | (with_reducible replace hc := tTT hc); clear hc | (with_reducible replace hc := tFF hc); clear hc | (have hp := hc; try simp only [decide_eq_true_eq, decide_eq_false_iff_not, bA, bB, bC, bD, bE, bF, bG, bH] at hp))))
    | (refine Kn.go hK ?_; clear hK K)
    | refine Kn.go (by assumption) ?_
    | (intro n hn; (try simp only [upd_none2, join_none_iff, ite_none, ne_eq] at hn); (try simp only [push_cast, seval, *]))
    | (intro hc)
    | fail)
      rename_i n1 h1
      have hG1 : Gs n1 = none := by
        have h := (unhid hown).none h1
        rw [upd_none] at h; exact h.2
      have c18 : ¬ n1 = m8 := of_eq_false (hne8 n1 h1).2
      have own1 := (unhid hown).new h1 (.r 80 4 1 [[.c (.int .i64 ys), .c (.int .i64 yk), .c (.int .i64 yn), .c (.int .i64 yt)]])
      refine does_app1 rfl rfl rfl rfl own1 (by simp only [upd_none2]; exact hn) tE47 tS80 tB80 tZ80 rfl (by decide) ?_ ?_ ?_
      · simp only [List.length_map, maxLen]; omega
      · simp only [List.length_map]; omega
      intro x' H' hown'
      have gk : upd (upd Gs m8 (bxT x)) n1 (.r 80 4 1 [[.c (.int .i64 ys), .c (.int .i64 yk), .c (.int .i64 yn), .c (.int .i64 yt)]]) m8 = some (bxT x) := by rw [upd_ne (Ne.symm c18), upd_same]
      have kk8 := hown'.get gk
      have hcs' := hown'.cs
      obtain ⟨H2, l1, l2⟩ := (hown'.turn gk (bxT x')).cut (K := upd Gs m8 (bxT x')) (cut1k hG1)
      rw [show [[AV.c (Value.int IntKind.i64 ys), AV.c (Value.int IntKind.i64 yk), AV.c (Value.int IntKind.i64 yn), AV.c (Value.int IntKind.i64 yt)]] = [KC.av ⟨ys, yk, yn, yt⟩].map id from rfl, List.map_id, ← List.map_singleton (f := KC.av), ← List.map_append] at l2
      clear own1 hown hown' gk k8 hcs
      replace l1 := Lib.hid l1
      replace l2 := Lib.hid l2
      (try simp only [push_cast, seval, *])
      repeat' (first
    | refine AW_seq_kn fun K hK => ?_
    | refine AW_block ?_
    | (refine does_call rfl rfl ?_; simp only [push_cast, seval, *]; refine ACall.monoP (rkey_p ⟨_, _, _, _⟩ _) ?_; (try simp only [push_cast, seval, *]))
    | ((first
      | refine AW_region E0 ?_ | refine AW_ret ?_ | refine AW_exit ?_ | refine AW_skip ?_ | unfold retQ); try simp only [push_cast, seval, *])
    | (apply AW_cond; (case hc => (simp only [push_cast, seval]; rfl)); all_goals (intro hc; first | (exfalso; simp only [push_cast, seval, *] at hc; done) | (exact absurd hc (by decide)) | ((try first | rw [Bool.not_true] at hc | rw [Bool.not_false] at hc); first | (with_reducible replace hc := tTT hc); clear hc | (with_reducible replace hc := tFF hc); clear hc | (have hp := hc; try simp only [decide_eq_true_eq, decide_eq_false_iff_not, bA, bB, bC, bD, bE, bF, bG, bH] at hp))))
    | (refine Kn.go hK ?_; clear hK K)
    | refine Kn.go (by assumption) ?_
    | (intro n hn; (try simp only [upd_none2, join_none_iff, ite_none, ne_eq] at hn); (try simp only [push_cast, seval, *]))
    | (intro hc)
    | fail)
      exact ⟨(x', H2), unhid l2, by (first | trivial | (simp only [push_cast, seval, *]; done)), unhid l1⟩
  · rintro ⟨x, B⟩ hown
    simp only at hown
    rw [List.take_length] at hown
    have k6 := hown.get (m := n6) (by rw [upd_ne c68]; exact g6)
    have k8 := hown.get (m := m8) (upd_same _ _ _)
    have hcs := hown.cs
    have hfl : ∀ a b, Heap.le H (upd (upd Gs m8 a) n6 b) := fun a b q z hq => by
      have c6 : ¬ q = n6 := by rintro rfl; rw [hH6] at hq; cases hq
      have hz := unhid hle q z hq
      have c8 : ¬ q = m8 := by rintro rfl; rw [hG8] at hz; cases hz
      rw [upd_ne c6, upd_ne c8]; exact hz
    have ht2 := hown.turn (m := n6) (by rw [upd_ne c68]; exact g6) (bxT x)
    replace hown := Lib.hid hown
    replace hfl := Lib.hid hfl
    replace ht2 := Lib.hid ht2
    repeat' (first
    | refine AW_seq_kn fun K hK => ?_
    | refine AW_block ?_
    | (refine does_call rfl rfl ?_; simp only [push_cast, seval, *]; refine ACall.monoP (rkey_p ⟨_, _, _, _⟩ _) ?_; (try simp only [push_cast, seval, *]))
    | ((first
      | refine AW_region E0 ?_ | refine AW_ret ?_ | refine AW_exit ?_ | refine AW_skip ?_ | unfold retQ); try simp only [push_cast, seval, *])
    | (apply AW_cond; (case hc => (simp only [push_cast, seval]; rfl)); all_goals (intro hc; first | (exfalso; simp only [push_cast, seval, *] at hc; done) | (exact absurd hc (by decide)) | ((try first | rw [Bool.not_true] at hc | rw [Bool.not_false] at hc); first | (with_reducible replace hc := tTT hc); clear hc | (with_reducible replace hc := tFF hc); clear hc | (have hp := hc; try simp only [decide_eq_true_eq, decide_eq_false_iff_not, bA, bB, bC, bD, bE, bF, bG, bH] at hp))))
    | (refine Kn.go hK ?_; clear hK K)
    | refine Kn.go (by assumption) ?_
    | (intro n hn; (try simp only [upd_none2, join_none_iff, ite_none, ne_eq] at hn); (try simp only [push_cast, seval, *]))
    | (intro hc)
    | fail)
    exact ⟨_, _, ((unhid ht2).weak fun F F' hF hi _ => Imp.t (Imps.cons (Imp.g (Imps.cons hi (fun _ => rfl) Imps.nil)) id (Imps.cons (Imp.refl hF _) id Imps.nil))).trans (Weak.less (unhid hfl _ _)), rfl, rfl⟩
end Go.Proofs.Ytmkncbddjnaklaa
