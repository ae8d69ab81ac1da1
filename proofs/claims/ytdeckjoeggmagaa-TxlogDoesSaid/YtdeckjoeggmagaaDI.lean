/- Walk of the document: Write. -/
import Derived.Test.YtdeckjoeggmagaaDG
import Derived.Test.YtdeckjoeggmagaaI
namespace Go.Proofs.Ytdeckjoeggmagaa
open Go.RowKit
open Nat renaming reduceEqDiff → nA, reduceLT → nB, reduceLeDiff → nC, reduceAdd → nD, reduceMul → nE, reduceSub → nF, reduceBEq → nG
open Int renaming reduceToNat → iA, reduceLT → iB, reduceLE → iC, reduceEq → iD
open Bool renaming and_eq_true → bA, or_eq_true → bB, or_eq_false_iff → bC, and_eq_false_iff → bD, not_eq_true' → bE, not_eq_false' → bF, not_true → bG, not_false → bH
set_option linter.all false
set_option maxHeartbeats 4000000
attribute [local irreducible] AW Does ACall tE tS tB tZ
def dLDI0 : List En := [(0, false, []), (1, true, []), (2, false, []), (3, false, []), (4, false, []), (5, false, []), (6, false, []), (7, false, []), (8, false, []), (9, false, []), (10, false, [1]), (11, false, []), (12, false, []), (13, false, [])]
def dADI0 : List (List Nat) := [[], [0], [], [], [3], [], [3, 4, 5], [3, 4, 5, 6], [3, 4, 5, 6, 7], [], [3, 4, 5, 6, 7, 8, 9], [0, 1, 2, 3, 4, 5, 6, 7, 8, 9, 10], [0, 1, 2, 3, 4, 5, 6, 7, 8, 9, 10, 11], [0, 1, 2, 3, 4, 5, 6, 7, 8, 9, 10, 11, 12]]
attribute [push_cast] dLDI0
set_option maxRecDepth 5000

theorem refWrite_p (l : Lg) (hok : lgOk l = true) (v : Nm) (more : List Rec) (hm : more.length ≤ 1000000) : Pure Try.prog 67 [.g (Lg.av l), .g (Nm.av v), .l 3 (more.map Rec.av)] (.t [.g (if writeE l v more = 0 then writeL l v more else zeroL).av, .c (.int .i64 (writeE l v more))]) := by
  intro H
  have hf := fits_of hok
  have hr := ((lgOk_iff l).1 hok).rise
  have hcp := fun M => Copy_o l hf M
  have hfd := find_p l (by have := hf.1.1; unfold maxLen; omega) v
  rw [fd_at hr v] at hfd
  have hrr := rright_p more (by unfold maxLen; omega)
  have hrc := records_p l (fits_size hf) (by have := hf.1.1; unfold maxLen; omega)
  have htr := fun h => at_true (l := l.txs) (v := v) h
  have hall : (more.any fun r => !recOk r) = !(more.all recOk) := by
    clear hm hrr
    induction more with
    | nil => rfl
    | cons x m ih => rw [List.any_cons, List.all_cons, Bool.not_and, ih]
  have hE : writeE l v more = if atB l.txs v = false then 4 else if (txAt l.txs v).st = 2 then 261 else if (more.any fun r => !recOk r) = true then 150 else if 400 < sizeS l + more.length then 6 else 0 := rfl
  rw [hall] at hE
  clear hall
  obtain ⟨N, hN⟩ : ∃ N, N = writeL l v more := ⟨_, rfl⟩
  rw [← hN]
  unfold writeL at hN
  unfold txAt at hN hE
  generalize more.all recOk = W at *
  have hsz := ((lgOk_iff l).1 hok).size
  generalize sizeS l = S at *
  generalize writeE l v more = E at *
  generalize atI l.txs v = i at *
  generalize atB l.txs v = B at *
  have hl24 := ((lgOk_iff l).1 hok).t24
  have hb5 := (lgOk_bd hok).2.2.2.2
  obtain ⟨a, b, c⟩ := l
  simp only at hN htr hl24 hE hb5
  obtain ⟨vs, va, vn⟩ := v
  have hnv : Nm.av ⟨vs, va, vn⟩ = [.c (.int .i64 vs), .c (.int .i64 va), .c (.int .i64 vn)] := rfl
  simp only [hnv, Lg.av] at hfd hcp hrc ⊢
  have hz : zeroL.av = [.l 5 [], .l 3 [], .l 3 []] := rfl
  simp only [Lg.av] at hz
  clear hf hr hok
  cases B
  · rw [if_pos rfl] at hE
    subst hE
    rw [if_neg (by decide)]
    simp only [Bool.false_eq_true, if_false] at hfd
    clear htr hN hcp hrr hrc hb5
    refine ACall_of' Try.func67 rfl (Ent_of Try.func67 (by kernel_rfl) rfl) (by simp [Try.ntmps67]) ?_; simp only [Try.ntmps67, Try.results67]
    repeat' (first
    | refine AW_seq_kn fun K hK => ?_
    | refine AW_block ?_
    | (refine does_call rfl rfl ?_; simp only [push_cast, seval, *]; refine ACall.monoP (hfd _) ?_; (try simp only [push_cast, seval, *]))
    | ((first
      | refine AW_region_draw (id := 11) E0 (fun f => [].contains f) dLDI0 dADI0 mixed (by kernel_rfl) ?_
      | refine AW_region E0 ?_ | refine AW_ret ?_ | refine AW_exit ?_ | refine AW_skip ?_ | unfold retQ); try simp only [push_cast, seval, *])
    | (apply AW_cond; (case hc => (simp only [push_cast, seval]; rfl)); all_goals (intro hc; first | (exfalso; simp only [push_cast, seval, *] at hc; done) | (exact absurd hc (by decide)) | ((try first | rw [Bool.not_true] at hc | rw [Bool.not_false] at hc); first | (with_reducible replace hc := tTT hc); clear hc | (with_reducible replace hc := tFF hc); clear hc | (have hp := hc; try simp only [decide_eq_true_eq, decide_eq_false_iff_not, bA, bB, bC, bD, bE, bF, bG, bH] at hp))))
    | (refine Kn.go hK ?_; clear hK K)
    | refine Kn.go (by assumption) ?_
    | (intro n hn; (try simp only [upd_none2, join_none_iff, ite_none, ne_eq] at hn); (try simp only [push_cast, seval, *]))
    | (intro hc)
    | fail)
    exact ⟨_, H, Weak.trans (Weak.less (by (repeat' (first | exact Heap.le_refl _ | refine hle_upd2 ?_ _ _ | (refine Heap.le_new ?_ ?_; rotate_left 1; focus (first | assumption | (simp only [upd_none2, upd_get, ne_eq, push_cast, seval, *]; done) | (simp [upd_get, *]; done))))))) (zero_weak H 4), rfl, rfl⟩
  rw [if_neg (by decide)] at hE
  simp only [if_true] at hfd
  obtain ⟨t, ht, htn⟩ := htr rfl
  rw [ht] at hN hE
  simp only [Option.getD_some] at hN hE
  have hbt := hb5 t (List.mem_of_getElem? ht)
  have hiI : ¬ (i : Int) < 0 := by omega
  have hiP : (0 : Int) ≤ i := by omega
  have hil : (i : Int) < a.length := by have := (List.getElem?_eq_some_iff.1 ht).1; omega
  obtain ⟨⟨ts, ta, tn⟩, tst, trs⟩ := t
  have htv : Tx.av ⟨⟨ts, ta, tn⟩, tst, trs⟩ = [.c (.int .i64 ts), .c (.int .i64 ta), .c (.int .i64 tn), .c (.int .i64 tst), .l 3 (trs.map Rec.av)] := rfl
  simp only at hbt hE hN
  clear htr htn hb5
  by_cases hst : tst = 2
  · rw [if_pos hst] at hE
    subst hE
    rw [if_neg (by decide)]
    clear hN hcp hrr hrc
    refine ACall_of' Try.func67 rfl (Ent_of Try.func67 (by kernel_rfl) rfl) (by simp [Try.ntmps67]) ?_; simp only [Try.ntmps67, Try.results67]
    repeat' (first
    | refine AW_seq_kn fun K hK => ?_
    | refine AW_block ?_
    | (refine does_call rfl rfl ?_; simp only [push_cast, seval, *]; refine ACall.monoP (hfd _) ?_; (try simp only [push_cast, seval, *]))
    | ((first
      | refine AW_region_draw (id := 11) E0 (fun f => [].contains f) dLDI0 dADI0 mixed (by kernel_rfl) ?_
      | refine AW_region E0 ?_ | refine AW_ret ?_ | refine AW_exit ?_ | refine AW_skip ?_ | unfold retQ); try simp only [push_cast, seval, *])
    | (apply AW_cond; (case hc => (simp only [push_cast, seval]; rfl)); all_goals (intro hc; first | (exfalso; simp only [push_cast, seval, *] at hc; done) | (exact absurd hc (by decide)) | ((try first | rw [Bool.not_true] at hc | rw [Bool.not_false] at hc); first | (with_reducible replace hc := tTT hc); clear hc | (with_reducible replace hc := tFF hc); clear hc | (have hp := hc; try simp only [decide_eq_true_eq, decide_eq_false_iff_not, bA, bB, bC, bD, bE, bF, bG, bH] at hp))))
    | (refine Kn.go hK ?_; clear hK K)
    | refine Kn.go (by assumption) ?_
    | (intro n hn; (try simp only [upd_none2, join_none_iff, ite_none, ne_eq] at hn); (try simp only [push_cast, seval, *]))
    | (intro hc)
    | fail)
    exact ⟨_, H, Weak.trans (Weak.less (by (repeat' (first | exact Heap.le_refl _ | refine hle_upd2 ?_ _ _ | (refine Heap.le_new ?_ ?_; rotate_left 1; focus (first | assumption | (simp only [upd_none2, upd_get, ne_eq, push_cast, seval, *]; done) | (simp [upd_get, *]; done))))))) (zero_weak H 261), rfl, rfl⟩
  rw [if_neg hst] at hE
  cases W
  · rw [if_pos (by decide)] at hE
    subst hE
    rw [if_neg (by decide)]
    clear hN hcp hrc
    refine ACall_of' Try.func67 rfl (Ent_of Try.func67 (by kernel_rfl) rfl) (by simp [Try.ntmps67]) ?_; simp only [Try.ntmps67, Try.results67]
    repeat' (first
    | refine AW_seq_kn fun K hK => ?_
    | refine AW_block ?_
    | (refine does_call rfl rfl ?_; simp only [push_cast, seval, *]; refine ACall.monoP (hfd _) ?_; (try simp only [push_cast, seval, *]))
    | (refine does_call rfl rfl ?_; simp only [push_cast, seval, *]; refine ACall.monoP (hrr _) ?_; (try simp only [push_cast, seval, *]))
    | ((first
      | refine AW_region_draw (id := 11) E0 (fun f => [].contains f) dLDI0 dADI0 mixed (by kernel_rfl) ?_
      | refine AW_region E0 ?_ | refine AW_ret ?_ | refine AW_exit ?_ | refine AW_skip ?_ | unfold retQ); try simp only [push_cast, seval, *])
    | (apply AW_cond; (case hc => (simp only [push_cast, seval]; rfl)); all_goals (intro hc; first | (exfalso; simp only [push_cast, seval, *] at hc; done) | (exact absurd hc (by decide)) | ((try first | rw [Bool.not_true] at hc | rw [Bool.not_false] at hc); first | (with_reducible replace hc := tTT hc); clear hc | (with_reducible replace hc := tFF hc); clear hc | (have hp := hc; try simp only [decide_eq_true_eq, decide_eq_false_iff_not, bA, bB, bC, bD, bE, bF, bG, bH] at hp))))
    | (refine Kn.go hK ?_; clear hK K)
    | refine Kn.go (by assumption) ?_
    | (intro n hn; (try simp only [upd_none2, join_none_iff, ite_none, ne_eq] at hn); (try simp only [push_cast, seval, *]))
    | (intro hc)
    | fail)
    exact ⟨_, H, Weak.trans (Weak.less (by (repeat' (first | exact Heap.le_refl _ | refine hle_upd2 ?_ _ _ | (refine Heap.le_new ?_ ?_; rotate_left 1; focus (first | assumption | (simp only [upd_none2, upd_get, ne_eq, push_cast, seval, *]; done) | (simp [upd_get, *]; done))))))) (zero_weak H 150), rfl, rfl⟩
  rw [if_neg (by decide)] at hE
  have hw1 : IntKind.i64.wrap ((S : Int) + more.length) = ((S + more.length : Nat) : Int) := by rw [wrap_i64 (by omega) (by omega)]; omega
  obtain ⟨T, hT⟩ : ∃ T, T = S + more.length := ⟨_, rfl⟩
  rw [← hT] at hw1 hE
  replace hT := Lib.hid hT
  by_cases h6 : 400 < T
  · rw [if_pos h6] at hE
    subst hE
    rw [if_neg (by decide)]
    have h6I : (400 : Int) < T := by omega
    replace h6 := Lib.hid h6
    clear hN hcp
    refine ACall_of' Try.func67 rfl (Ent_of Try.func67 (by kernel_rfl) rfl) (by simp [Try.ntmps67]) ?_; simp only [Try.ntmps67, Try.results67]
    repeat' (first
    | refine AW_seq_kn fun K hK => ?_
    | refine AW_block ?_
    | (refine does_call rfl rfl ?_; simp only [push_cast, seval, *]; refine ACall.monoP (hfd _) ?_; (try simp only [push_cast, seval, *]))
    | (refine does_call rfl rfl ?_; simp only [push_cast, seval, *]; refine ACall.monoP (hrr _) ?_; (try simp only [push_cast, seval, *]))
    | (refine does_call rfl rfl ?_; simp only [push_cast, seval, *]; refine ACall.monoP (hrc _) ?_; (try simp only [push_cast, seval, *]))
    | ((first
      | refine AW_region_draw (id := 11) E0 (fun f => [].contains f) dLDI0 dADI0 mixed (by kernel_rfl) ?_
      | refine AW_region E0 ?_ | refine AW_ret ?_ | refine AW_exit ?_ | refine AW_skip ?_ | unfold retQ); try simp only [push_cast, seval, *])
    | (apply AW_cond; (case hc => (simp only [push_cast, seval]; rfl)); all_goals (intro hc; first | (exfalso; simp only [push_cast, seval, *] at hc; done) | (exact absurd hc (by decide)) | ((try first | rw [Bool.not_true] at hc | rw [Bool.not_false] at hc); first | (with_reducible replace hc := tTT hc); clear hc | (with_reducible replace hc := tFF hc); clear hc | (have hp := hc; try simp only [decide_eq_true_eq, decide_eq_false_iff_not, bA, bB, bC, bD, bE, bF, bG, bH] at hp))))
    | (refine Kn.go hK ?_; clear hK K)
    | refine Kn.go (by assumption) ?_
    | (intro n hn; (try simp only [upd_none2, join_none_iff, ite_none, ne_eq] at hn); (try simp only [push_cast, seval, *]))
    | (intro hc)
    | fail)
    exact ⟨_, H, Weak.trans (Weak.less (by (repeat' (first | exact Heap.le_refl _ | refine hle_upd2 ?_ _ _ | (refine Heap.le_new ?_ ?_; rotate_left 1; focus (first | assumption | (simp only [upd_none2, upd_get, ne_eq, push_cast, seval, *]; done) | (simp [upd_get, *]; done))))))) (zero_weak H 6), rfl, rfl⟩
  rw [if_neg h6] at hE
  subst hE
  rw [if_pos rfl]
  have h6I : ¬ (400 : Int) < T := by omega
  replace h6 := Lib.hid h6
  replace hcp := Lib.hid hcp
  replace hN := Lib.hid hN
  refine ACall_of' Try.func67 rfl (Ent_of Try.func67 (by kernel_rfl) rfl) (by simp [Try.ntmps67]) ?_; simp only [Try.ntmps67, Try.results67]
  repeat' (first
    | refine AW_seq_kn fun K hK => ?_
    | refine AW_block ?_
    | (refine does_call rfl rfl ?_; simp only [push_cast, seval, *]; refine ACall.monoP (hfd _) ?_; (try simp only [push_cast, seval, *]))
    | (refine does_call rfl rfl ?_; simp only [push_cast, seval, *]; refine ACall.monoP (hrr _) ?_; (try simp only [push_cast, seval, *]))
    | (refine does_call rfl rfl ?_; simp only [push_cast, seval, *]; refine ACall.monoP (hrc _) ?_; (try simp only [push_cast, seval, *]))
    | ((first
      | refine AW_region_draw (id := 11) E0 (fun f => [].contains f) dLDI0 dADI0 mixed (by kernel_rfl) ?_
      | refine AW_region E0 ?_ | refine AW_ret ?_ | refine AW_exit ?_ | refine AW_skip ?_ | unfold retQ); try simp only [push_cast, seval, *])
    | (apply AW_cond; (case hc => (simp only [push_cast, seval]; rfl)); all_goals (intro hc; first | (exfalso; simp only [push_cast, seval, *] at hc; done) | (exact absurd hc (by decide)) | ((try first | rw [Bool.not_true] at hc | rw [Bool.not_false] at hc); first | (with_reducible replace hc := tTT hc); clear hc | (with_reducible replace hc := tFF hc); clear hc | (have hp := hc; try simp only [decide_eq_true_eq, decide_eq_false_iff_not, bA, bB, bC, bD, bE, bF, bG, bH] at hp))))
    | (refine Kn.go hK ?_; clear hK K)
    | refine Kn.go (by assumption) ?_
    | (intro n hn; (try simp only [upd_none2, join_none_iff, ite_none, ne_eq] at hn); (try simp only [push_cast, seval, *]))
    | (intro hc)
    | fail)
  rename_i n3 h3 n4 h4
  generalize n = n6 at *
  have e3 : H n3 = none := h3
  have e4 : H n4 = none := h4.2
  have e6 : H n6 = none := hn.2.2
  obtain ⟨G, hG⟩ : ∃ G : Heap, G = upd (upd (upd H n3 (.r 47 3 1 [[.l 5 (a.map Tx.av), .l 3 (b.map Nm.av), .l 3 (c.map Rec.av)]])) n4 (.r 26 3 1 [[.c (.int .i64 vs), .c (.int .i64 va), .c (.int .i64 vn)]])) n6 (.r 47 3 1 [zL]) := ⟨_, rfl⟩
  have n36 : ¬ n3 = n6 := hn.2.1.2
  have n34 : ¬ n3 = n4 := h4.1.2
  have n46 : ¬ n4 = n6 := hn.1.2
  have n63 : ¬ n6 = n3 := hn.2.1.1
  have g3 : G n3 = some (.r 47 3 1 [[.l 5 (a.map Tx.av), .l 3 (b.map Nm.av), .l 3 (c.map Rec.av)]]) := by rw [hG, upd_ne n36, upd_ne n34, upd_same]
  have g6 : G n6 = some (.r 47 3 1 [zL]) := by rw [hG, upd_same]
  have hle : Heap.le H G := by rw [hG]; (repeat' (first | exact Heap.le_refl _ | refine hle_upd2 ?_ _ _ | (refine Heap.le_new ?_ ?_; rotate_left 1; focus (first | assumption | (simp only [upd_none2, upd_get, ne_eq, push_cast, seval, *]; done) | (simp [upd_get, *]; done)))))
  rw [show upd (upd (upd H n3 (.r 47 3 1 [[.l 5 (a.map Tx.av), .l 3 (b.map Nm.av), .l 3 (c.map Rec.av)]])) n4 (.r 26 3 1 [[.c (.int .i64 vs), .c (.int .i64 va), .c (.int .i64 vn)]])) n6 (.r 47 3 1 [zL]) = G from hG.symm]
  clear hG h3 h4 hn hfd hrr hrc
  refine does_call rfl rfl ?_
  simp only [push_cast, seval, *]
  refine ACall.mono (unhid hcp G) ?_
  rintro _ A ⟨x1, x2, x3, rfl, ho⟩
  obtain ⟨⟨u1, u2, u3⟩, w1, w2, w3⟩ := OwnG_cs ho
  have k3 := (OwnG_loc _ _ _ _).get ho g3
  have k6 := (OwnG_loc _ _ _ _).get ho g6
  obtain ⟨A1, ho1, A2, o3, o4⟩ := ho
  simp only at ho1 o3 o4
  have hA1 : Heap.le G A1 := ((Loc.own _ _ _ _).comp (Loc.own _ _ _ _)).le ⟨A2, o3, o4⟩
  obtain ⟨np, cap, L, y, A0, rfl, rfl, hnp, hLl, hLi, hRi, hch⟩ := OwnX_open ho1 ht
  have hle0 := (Loc.chain RX_loc L).le hch
  have m3 : ¬ n3 = np := by rintro rfl; have := hle0 _ _ (hA1 _ _ g3); rw [hnp] at this; cases this
  have m6 : ¬ n6 = np := by rintro rfl; have := hle0 _ _ (hA1 _ _ g6); rw [hnp] at this; cases this
  have m3' : ¬ np = n3 := fun e => m3 e.symm
  have m6' : ¬ np = n6 := fun e => m6 e.symm
  have hRl : (L.map encX).length = a.length := by rw [← hLl]; simp
  simp only [encX] at hRi
  obtain ⟨R, hR⟩ : ∃ R, R = L.map encX := ⟨_, rfl⟩
  rw [← hR] at hRi hRl k3 k6
  rw [← hR]
  -- the row that grows, on top
  obtain ⟨B0, p1, p2⟩ := Chain.pick RX_loc hch hLi
  obtain ⟨B1, p3, p4⟩ := (Loc.own _ _ _ _).swap (RX_loc y _) (OwnL.at (ty := 86) (sz := 5) (cap := cap) (rows := R) hRl.symm hnp) p1
  simp only [RX] at p3
  rcases p4.split with ⟨ad, hx, -, -⟩ | ⟨np', cap', hx, rfl, hnp0⟩
  · cases hx
  simp only [AV.s.injEq, true_and] at hx
  obtain ⟨rfl, -, rfl⟩ := hx
  have s3 : upd B0 np (.r 86 5 cap R) n3 = some (.r 47 3 1 [[.l 5 (a.map Tx.av), .l 3 (b.map Nm.av), .l 3 (c.map Rec.av)]]) := by rw [upd_ne m3]; exact (Loc.chain RX_loc _).get p2 (hA1 _ _ g3)
  have hE45 := tE45
  have hS36 := tS36
  have hB36 := tB36
  have hZ36 := tZ36
  -- once the log's cell holds the copy
  have p5 := (Loc.own _ _ _ _).turn p3 s3 (.r 47 3 1 [[.s np 5 0 a.length cap, x2, x3]])
  have s6 : upd (upd B0 np (.r 86 5 cap R)) n3 (.r 47 3 1 [[.s np 5 0 a.length cap, x2, x3]]) n6 = some (.r 47 3 1 [zL]) := by rw [upd_ne n63, upd_ne m6]; exact (Loc.chain RX_loc _).get p2 (hA1 _ _ g6)
  replace hR := Lib.hid hR
  replace hLl := Lib.hid hLl
  replace hLi := Lib.hid hLi
  replace p2 := Lib.hid p2
  replace p5 := Lib.hid p5
  replace o3 := Lib.hid o3
  replace o4 := Lib.hid o4
  replace s6 := Lib.hid s6
  replace hA1 := Lib.hid hA1
  replace hnp0 := Lib.hid hnp0
  replace hle := Lib.hid hle
  clear p1 p3 p4 s3 ho1 hch hle0 ht hcp htv w1
  (try simp only [push_cast, seval, *])
  repeat' (first
    | refine AW_seq_kn fun K hK => ?_
    | refine AW_block ?_
    | ((first
      | refine AW_region_draw (id := 11) E0 (fun f => [].contains f) dLDI0 dADI0 mixed (by kernel_rfl) ?_
      | refine AW_region E0 ?_ | refine AW_ret ?_ | refine AW_exit ?_ | refine AW_skip ?_ | unfold retQ); try simp only [push_cast, seval, *])
    | (apply AW_cond; (case hc => (simp only [push_cast, seval]; rfl)); all_goals (intro hc; first | (exfalso; simp only [push_cast, seval, *] at hc; done) | (exact absurd hc (by decide)) | ((try first | rw [Bool.not_true] at hc | rw [Bool.not_false] at hc); first | (with_reducible replace hc := tTT hc); clear hc | (with_reducible replace hc := tFF hc); clear hc | (have hp := hc; try simp only [decide_eq_true_eq, decide_eq_false_iff_not, bA, bB, bC, bD, bE, bF, bG, bH] at hp))))
    | (refine Kn.go hK ?_; clear hK K)
    | refine Kn.go (by assumption) ?_
    | (intro n hn; (try simp only [upd_none2, join_none_iff, ite_none, ne_eq] at hn); (try simp only [push_cast, seval, *]))
    | (intro hc)
    | fail)
  refine does_appL (news := more.map Rec.av) rfl rfl rfl (unhid p5) hE45 hS36 hB36 hZ36 rfl (by decide) (by simp only [List.length_map, maxLen]; omega) (by simp only [List.length_map]; omega) ?_
  intro z Hz hz
  have hzcs := hz.cs
  have hzone := hz.one
  have z1 := hz.get (show _ = some (.r 86 5 cap R) by rw [upd_ne m3', upd_same])
  have z2 := hz.get (upd_same _ n3 _)
  have z3 := hz.get (unhid s6)
  rw [← List.map_append] at hz
  have hR2 : R.set i [.c (.int .i64 ts), .c (.int .i64 ta), .c (.int .i64 tn), .c (.int .i64 tst), z] = (L.set i (z, (⟨⟨ts, ta, tn⟩, tst, trs ++ more⟩ : Tx))).map encX := by
    rw [unhid hR]; exact set_enc rfl
  obtain ⟨R', hR'⟩ : ∃ R', R' = R.set i [.c (.int .i64 ts), .c (.int .i64 ta), .c (.int .i64 tn), .c (.int .i64 tst), z] := ⟨_, rfl⟩
  rw [← hR'] at hR2
  have hl2 : a.length = R'.length := by rw [hR', List.length_set, hRl]
  have hfin : OwnG (.s np 5 0 a.length cap) x2 x3 N (upd Hz np (.r 86 5 cap R')) (upd G n3 (.r 47 3 1 [[.s np 5 0 a.length cap, x2, x3]])) := by
    have t5 := hz.turn (show _ = some (.r 86 5 cap R) by rw [upd_ne m3', upd_same]) (.r 86 5 cap R')
    rw [upd_comm m3, upd_upd] at t5
    have t6 : upd (upd B0 np (.r 86 5 cap R')) n3 (.r 47 3 1 [[.s np 5 0 a.length cap, x2, x3]]) = upd (upd B0 n3 (.r 47 3 1 [[.s np 5 0 a.length cap, x2, x3]])) np (.r 86 5 cap R') := upd_comm m3'
    rw [t6] at t5
    obtain ⟨B2, r1, r2⟩ := (Loc.own z 36 3 ((trs ++ more).map Rec.av)).swap (Loc.own _ _ _ _) t5 (OwnL.at (ty := 86) (sz := 5) (cap := cap) hl2 (by rw [upd_ne m3']; exact unhid hnp0))
    have q3 := unhid hA1 _ _ g3
    have p6 := (Loc.chain RX_loc _).turn (unhid p2) q3 (.r 47 3 1 [[.s np 5 0 a.length cap, x2, x3]])
    have r3 := Chain.put RX_loc (L := L) (k := i) (a := (⟨⟨ts, ta, tn⟩, tst, trs ++ more⟩ : Tx)) r2 p6 (List.getElem?_eq_some_iff.1 (unhid hLi)).1
    have q4 := (Loc.own _ _ _ _).le (unhid o4) _ _ g3
    rw [hR2] at r1
    rw [unhid hN]
    exact ⟨_, ⟨L.set i (z, ⟨⟨ts, ta, tn⟩, tst, trs ++ more⟩), set_snd (unhid hLl), B2, by rw [hR2]; exact r1, r3⟩, _, (Loc.own _ _ _ _).turn (unhid o3) q4 _, (Loc.own _ _ _ _).turn (unhid o4) g3 _⟩
  obtain ⟨S2, v1, v2, v3⟩ := (OwnG_loc _ _ _ _).cutx hfin (le_skip (unhid hle) e3)
  have v4 := v3 n3 (by rw [upd_same]; simp) e3
  have v5 := v3 n6 (by rw [upd_ne n63, g6]; simp) e6
  replace v1 := Lib.hid v1
  replace v2 := Lib.hid v2
  replace v4 := Lib.hid v4
  replace v5 := Lib.hid v5
  replace hR' := Lib.hid hR'.symm
  clear hfin hz hR2 v3 hl2
  (try simp only [push_cast, seval, *])
  repeat' (first
    | refine AW_seq_kn fun K hK => ?_
    | refine AW_block ?_
    | ((first
      | refine AW_region_draw (id := 11) E0 (fun f => [].contains f) dLDI0 dADI0 mixed (by kernel_rfl) ?_
      | refine AW_region E0 ?_ | refine AW_ret ?_ | refine AW_exit ?_ | refine AW_skip ?_ | unfold retQ); try simp only [push_cast, seval, *])
    | (apply AW_cond; (case hc => (simp only [push_cast, seval]; rfl)); all_goals (intro hc; first | (exfalso; simp only [push_cast, seval, *] at hc; done) | (exact absurd hc (by decide)) | ((try first | rw [Bool.not_true] at hc | rw [Bool.not_false] at hc); first | (with_reducible replace hc := tTT hc); clear hc | (with_reducible replace hc := tFF hc); clear hc | (have hp := hc; try simp only [decide_eq_true_eq, decide_eq_false_iff_not, bA, bB, bC, bD, bE, bF, bG, bH] at hp))))
    | (refine Kn.go hK ?_; clear hK K)
    | refine Kn.go (by assumption) ?_
    | (intro n hn; (try simp only [upd_none2, join_none_iff, ite_none, ne_eq] at hn); (try simp only [push_cast, seval, *]))
    | (intro hc)
    | fail)
  refine ⟨_, H, Weak.trans (Weak.less (H' := S2) ?_) (OwnG.weak (unhid v2) [.int .i64 0]), rfl, rfl⟩
  have := unhid hR'
  first
    | exact le_skip (unhid v1) (unhid v5)
    | (rw [this]; exact le_skip (unhid v1) (unhid v5))
end Go.Proofs.Ytdeckjoeggmagaa
