/- What an op does. -/
import Derived.Test.YtdeckjoeggmagaaJ
import Derived.Test.YtdeckjoeggmagaaN
import Derived.Test.YtdeckjoeggmagaaO
import Derived.Test.YtdeckjoeggmagaaR
import Derived.Test.YtdeckjoeggmagaaS
namespace Go.Proofs.Ytdeckjoeggmagaa
open Go.RowKit
open Nat renaming reduceEqDiff → nA, reduceLT → nB, reduceLeDiff → nC, reduceAdd → nD, reduceMul → nE, reduceSub → nF, reduceBEq → nG
open Int renaming reduceToNat → iA, reduceLT → iB, reduceLE → iC, reduceEq → iD
open Bool renaming and_eq_true → bA, or_eq_true → bB, or_eq_false_iff → bC, and_eq_false_iff → bD, not_eq_true' → bE, not_eq_false' → bF, not_true → bG, not_false → bH
set_option linter.all false
set_option maxHeartbeats 4000000
attribute [local irreducible] AW Does ACall tE tS tB tZ
def dLU0 : List En := [(0, true, []), (1, false, []), (2, true, []), (3, false, []), (4, false, []), (5, false, [0, 2]), (6, false, []), (7, false, []), (8, false, []), (9, false, []), (10, false, []), (11, false, [])]
def dAU0 : List (List Nat) := [[], [], [1], [], [3], [3, 4], [0, 1, 2, 3, 4, 5], [0, 1, 2, 3, 4, 5, 6], [0, 1, 2, 3, 4, 5, 6, 7], [0, 1, 2, 3, 4, 5, 6, 7], [0, 1, 2, 3, 4, 5, 6, 7, 8], [0, 1, 2, 3, 4, 5, 6, 7, 8, 9, 10]]
attribute [push_cast] dLU0
def dLU1 : List En := [(0, true, []), (1, false, []), (2, false, []), (3, false, [0]), (4, false, []), (5, false, []), (6, false, []), (7, false, []), (8, false, []), (9, false, [])]
def dAU1 : List (List Nat) := [[], [], [1], [1, 2], [0, 1, 2, 3], [0, 1, 2, 3, 4], [0, 1, 2, 3, 4, 5], [0, 1, 2, 3, 4, 5], [0, 1, 2, 3, 4, 5, 6], [0, 1, 2, 3, 4, 5, 6, 7, 8]]
attribute [push_cast] dLU1
def dLU2 : List En := [(0, true, []), (1, false, []), (2, false, []), (3, false, [0]), (4, false, []), (5, false, []), (6, false, []), (7, false, []), (8, false, []), (9, false, []), (10, false, []), (11, false, [])]
def dAU2 : List (List Nat) := [[], [], [1], [1, 2], [0, 1, 2, 3], [0, 1, 2, 3, 4], [0, 1, 2, 3, 4, 5], [0, 1, 2, 3, 4, 5], [0, 1, 2, 3, 4, 5], [0, 1, 2, 3, 4, 5, 6], [0, 1, 2, 3, 4, 5, 6, 7, 9], [0, 1, 2, 3, 4, 5, 6, 7, 8, 9, 10]]
attribute [push_cast] dLU2
set_option maxRecDepth 5000

def kdS (o : Op16) : Int := (IntKind.u64.wrap o.kind).tmod 9
theorem kdS_bd (o : Op16) : 0 ≤ kdS o ∧ kdS o < 9 := by
  unfold kdS
  have h : 0 ≤ IntKind.u64.wrap o.kind := by
    simp only [IntKind.wrap, IntKind.bits, IntKind.signed]
    first
      | exact Int.emod_nonneg _ (by decide)
      | (simp; exact Int.emod_nonneg _ (by decide))
  rw [Int.tmod_eq_emod_of_nonneg h]
  exact ⟨Int.emod_nonneg _ (by decide), Int.emod_lt_of_pos _ (by decide)⟩
def runR (l : Lg) (o : Op16) : Lg × Int × Int :=
  if kdS o < 2 then ((openR l o.nm).1, 0, (openR l o.nm).2)
  else if kdS o < 4 then ((writeR l o.nm (o.recs.take 401)).1, 0, (writeR l o.nm (o.recs.take 401)).2)
  else if kdS o < 6 then ((readyR l o.nm).1, 0, (readyR l o.nm).2)
  else if kdS o < 8 then ((commitR l (o.names.take 30)).1, 0, (commitR l (o.names.take 30)).2)
  else abortR l (o.names.take 30)
theorem runOpen_o (o : Op16) (ho : o.names.length ≤ maxLen ∧ o.recs.length ≤ maxLen) (c : Lg) (hf : c.fits) (hk : kdS o = 0 ∨ kdS o = 1) (H : Heap) :
    ACall Try.prog 26 [.g (Op16.av o), .g (Lg.av c)] H fun r H' => ∃ y1 y2 y3, r = .t [gl y1 y2 y3, .c (.int .i64 0), .c (.int .i64 (openR c o.nm).2)] ∧ OwnG y1 y2 y3 (openR c o.nm).1 H' H := by
  have hx := Open_o c hf o.nm
  generalize openR c o.nm = R at *
  obtain ⟨R1, R2⟩ := R
  unfold kdS at hk
  obtain ⟨kd, ⟨nms, nma, nmn⟩, nl, rl⟩ := o
  obtain ⟨a, b, cc⟩ := c
  simp only [Op16.av, Lg.av, Nm.av] at hx ⊢
  simp only at hk
  generalize hU : IntKind.u64.wrap kd = U at hk
  clear hf ho
  replace hx := Lib.hid hx
  rcases hk with hk | hk
  all_goals
    refine ACall_of' Try.func26 rfl (Ent_of Try.func26 (by kernel_rfl) rfl) (by simp [Try.ntmps26]) ?_; simp only [Try.ntmps26, Try.results26]
    repeat' (first
    | refine AW_seq_kn fun K hK => ?_
    | refine AW_block ?_
    | ((first
      | refine AW_region_draw (id := 8) E0 (fun f => [].contains f) dLU0 dAU0 mixed (by kernel_rfl) ?_
      | refine AW_region_draw (id := 14) E0 (fun f => [].contains f) dLU1 dAU1 mixed (by kernel_rfl) ?_
      | refine AW_region_draw (id := 2) E0 (fun f => [].contains f) dLU2 dAU2 mixed (by kernel_rfl) ?_
      | refine AW_region E0 ?_ | refine AW_ret ?_ | refine AW_exit ?_ | refine AW_skip ?_ | unfold retQ); try simp only [push_cast, seval, *])
    | (apply AW_cond; (case hc => (simp only [push_cast, seval]; rfl)); all_goals (intro hc; first | (exfalso; simp only [push_cast, seval, *] at hc; done) | (exact absurd hc (by decide)) | ((try first | rw [Bool.not_true] at hc | rw [Bool.not_false] at hc); first | (with_reducible replace hc := tTT hc); clear hc | (with_reducible replace hc := tFF hc); clear hc | (have hp := hc; try simp only [decide_eq_true_eq, decide_eq_false_iff_not, bA, bB, bC, bD, bE, bF, bG, bH] at hp))))
    | (refine Kn.go hK ?_; clear hK K)
    | refine Kn.go (by assumption) ?_
    | (intro n hn; (try simp only [upd_none2, join_none_iff, ite_none, ne_eq] at hn); (try simp only [push_cast, seval, *]))
    | (intro hc)
    | fail)
    rename_i n1 h1 n2 h2
    generalize n = n4 at *
    obtain ⟨Gs, hGs⟩ : ∃ Gs : Heap, Gs = upd (upd (upd H n1 (.r 51 6 1 [[.c (.int .i64 kd), .c (.int .i64 nms), .c (.int .i64 nma), .c (.int .i64 nmn), .l 3 (nl.map Nm.av), .l 3 (rl.map Rec.av)]])) n2 (.r 47 3 1 [[.l 5 (a.map Tx.av), .l 3 (b.map Nm.av), .l 3 (cc.map Rec.av)]])) n4 (.r 47 3 1 [zL]) := ⟨_, rfl⟩
    have g4 : Gs n4 = some (.r 47 3 1 [zL]) := by rw [hGs]; exact upd_same _ _ _
    have gn4 : H n4 = none := hn.2.2
    have hle : Heap.le H Gs := by rw [hGs]; (repeat' (first | exact Heap.le_refl _ | refine hle_upd2 ?_ _ _ | (refine Heap.le_new ?_ ?_; rotate_left 1; focus (first | assumption | (simp only [upd_none2, upd_get, ne_eq, push_cast, seval, *]; done) | (simp [upd_get, *]; done)))))
    rw [← hGs]
    clear hGs h1 h2 hn
    refine does_call rfl rfl ?_
    simp only [push_cast, seval, *]
    refine ACall.mono (unhid hx Gs) ?_
    rintro _ H' ⟨y1, y2, y3, rfl, ho⟩
    have k4 := (OwnG_loc y1 y2 y3 R1).get ho g4
    obtain ⟨H2, l1, l2, l3⟩ := (OwnG_loc y1 y2 y3 R1).cutx ho (K := H) hle
    have l4 := l3 n4 (by rw [g4]; simp) gn4
    obtain ⟨⟨cs1, cs2, cs3⟩, os1, os2, os3⟩ := OwnG_cs l2
    have o4 := ne_old k4
    clear hx g4 gn4 hle l3 ho hU
    replace l1 := Lib.hid l1
    replace l2 := Lib.hid l2
    replace l4 := Lib.hid l4
    (try simp only [push_cast, seval, *])
    repeat' (first
    | refine AW_seq_kn fun K hK => ?_
    | refine AW_block ?_
    | ((first
      | refine AW_region_draw (id := 8) E0 (fun f => [].contains f) dLU0 dAU0 mixed (by kernel_rfl) ?_
      | refine AW_region_draw (id := 14) E0 (fun f => [].contains f) dLU1 dAU1 mixed (by kernel_rfl) ?_
      | refine AW_region_draw (id := 2) E0 (fun f => [].contains f) dLU2 dAU2 mixed (by kernel_rfl) ?_
      | refine AW_region E0 ?_ | refine AW_ret ?_ | refine AW_exit ?_ | refine AW_skip ?_ | unfold retQ); try simp only [push_cast, seval, *])
    | (apply AW_cond; (case hc => (simp only [push_cast, seval]; rfl)); all_goals (intro hc; first | (exfalso; simp only [push_cast, seval, *] at hc; done) | (exact absurd hc (by decide)) | ((try first | rw [Bool.not_true] at hc | rw [Bool.not_false] at hc); first | (with_reducible replace hc := tTT hc); clear hc | (with_reducible replace hc := tFF hc); clear hc | (have hp := hc; try simp only [decide_eq_true_eq, decide_eq_false_iff_not, bA, bB, bC, bD, bE, bF, bG, bH] at hp))))
    | (refine Kn.go hK ?_; clear hK K)
    | refine Kn.go (by assumption) ?_
    | (intro n hn; (try simp only [upd_none2, join_none_iff, ite_none, ne_eq] at hn); (try simp only [push_cast, seval, *]))
    | (intro hc)
    | fail)
    exact ⟨_, H2, Weak.less (by repeat' (first | exact unhid l1 | refine le_skip ?_ (unhid l4))), y1, y2, y3, rfl, unhid l2⟩
theorem runWrite_o (o : Op16) (ho : o.names.length ≤ maxLen ∧ o.recs.length ≤ maxLen) (c : Lg) (hf : c.fits) (hk : kdS o = 2 ∨ kdS o = 3) (H : Heap) :
    ACall Try.prog 26 [.g (Op16.av o), .g (Lg.av c)] H fun r H' => ∃ y1 y2 y3, r = .t [gl y1 y2 y3, .c (.int .i64 0), .c (.int .i64 (writeR c o.nm (o.recs.take 401)).2)] ∧ OwnG y1 y2 y3 (writeR c o.nm (o.recs.take 401)).1 H' H := by
  have hx := Write_o c hf o.nm (o.recs.take 401) (by simp; omega)
  have hpre := few_p o.recs ho.2
  generalize writeR c o.nm (o.recs.take 401) = R at *
  obtain ⟨R1, R2⟩ := R
  generalize o.recs.take 401 = rs at *
  unfold kdS at hk
  obtain ⟨kd, ⟨nms, nma, nmn⟩, nl, rl⟩ := o
  obtain ⟨a, b, cc⟩ := c
  simp only [Op16.av, Lg.av, Nm.av] at hx ⊢
  simp only at hk hpre
  generalize hU : IntKind.u64.wrap kd = U at hk
  clear hf ho
  replace hx := Lib.hid hx
  rcases hk with hk | hk
  all_goals
    refine ACall_of' Try.func26 rfl (Ent_of Try.func26 (by kernel_rfl) rfl) (by simp [Try.ntmps26]) ?_; simp only [Try.ntmps26, Try.results26]
    repeat' (first
    | refine AW_seq_kn fun K hK => ?_
    | refine AW_block ?_
    | (refine does_call rfl rfl ?_; simp only [push_cast, seval, *]; refine ACall.monoP (hpre _) ?_; (try simp only [push_cast, seval, *]))
    | ((first
      | refine AW_region_draw (id := 8) E0 (fun f => [].contains f) dLU0 dAU0 mixed (by kernel_rfl) ?_
      | refine AW_region_draw (id := 14) E0 (fun f => [].contains f) dLU1 dAU1 mixed (by kernel_rfl) ?_
      | refine AW_region_draw (id := 2) E0 (fun f => [].contains f) dLU2 dAU2 mixed (by kernel_rfl) ?_
      | refine AW_region E0 ?_ | refine AW_ret ?_ | refine AW_exit ?_ | refine AW_skip ?_ | unfold retQ); try simp only [push_cast, seval, *])
    | (apply AW_cond; (case hc => (simp only [push_cast, seval]; rfl)); all_goals (intro hc; first | (exfalso; simp only [push_cast, seval, *] at hc; done) | (exact absurd hc (by decide)) | ((try first | rw [Bool.not_true] at hc | rw [Bool.not_false] at hc); first | (with_reducible replace hc := tTT hc); clear hc | (with_reducible replace hc := tFF hc); clear hc | (have hp := hc; try simp only [decide_eq_true_eq, decide_eq_false_iff_not, bA, bB, bC, bD, bE, bF, bG, bH] at hp))))
    | (refine Kn.go hK ?_; clear hK K)
    | refine Kn.go (by assumption) ?_
    | (intro n hn; (try simp only [upd_none2, join_none_iff, ite_none, ne_eq] at hn); (try simp only [push_cast, seval, *]))
    | (intro hc)
    | fail)
    rename_i n1 h1 n2 h2
    generalize n = n4 at *
    obtain ⟨Gs, hGs⟩ : ∃ Gs : Heap, Gs = upd (upd (upd H n1 (.r 51 6 1 [[.c (.int .i64 kd), .c (.int .i64 nms), .c (.int .i64 nma), .c (.int .i64 nmn), .l 3 (nl.map Nm.av), .l 3 (rl.map Rec.av)]])) n2 (.r 47 3 1 [[.l 5 (a.map Tx.av), .l 3 (b.map Nm.av), .l 3 (cc.map Rec.av)]])) n4 (.r 47 3 1 [zL]) := ⟨_, rfl⟩
    have g4 : Gs n4 = some (.r 47 3 1 [zL]) := by rw [hGs]; exact upd_same _ _ _
    have gn4 : H n4 = none := hn.2.2
    have hle : Heap.le H Gs := by rw [hGs]; (repeat' (first | exact Heap.le_refl _ | refine hle_upd2 ?_ _ _ | (refine Heap.le_new ?_ ?_; rotate_left 1; focus (first | assumption | (simp only [upd_none2, upd_get, ne_eq, push_cast, seval, *]; done) | (simp [upd_get, *]; done)))))
    rw [← hGs]
    clear hGs h1 h2 hn
    refine does_call rfl rfl ?_
    simp only [push_cast, seval, *]
    refine ACall.mono (unhid hx Gs) ?_
    rintro _ H' ⟨y1, y2, y3, rfl, ho⟩
    have k4 := (OwnG_loc y1 y2 y3 R1).get ho g4
    obtain ⟨H2, l1, l2, l3⟩ := (OwnG_loc y1 y2 y3 R1).cutx ho (K := H) hle
    have l4 := l3 n4 (by rw [g4]; simp) gn4
    obtain ⟨⟨cs1, cs2, cs3⟩, os1, os2, os3⟩ := OwnG_cs l2
    have o4 := ne_old k4
    clear hx g4 gn4 hle l3 ho hpre hU
    replace l1 := Lib.hid l1
    replace l2 := Lib.hid l2
    replace l4 := Lib.hid l4
    (try simp only [push_cast, seval, *])
    repeat' (first
    | refine AW_seq_kn fun K hK => ?_
    | refine AW_block ?_
    | ((first
      | refine AW_region_draw (id := 8) E0 (fun f => [].contains f) dLU0 dAU0 mixed (by kernel_rfl) ?_
      | refine AW_region_draw (id := 14) E0 (fun f => [].contains f) dLU1 dAU1 mixed (by kernel_rfl) ?_
      | refine AW_region_draw (id := 2) E0 (fun f => [].contains f) dLU2 dAU2 mixed (by kernel_rfl) ?_
      | refine AW_region E0 ?_ | refine AW_ret ?_ | refine AW_exit ?_ | refine AW_skip ?_ | unfold retQ); try simp only [push_cast, seval, *])
    | (apply AW_cond; (case hc => (simp only [push_cast, seval]; rfl)); all_goals (intro hc; first | (exfalso; simp only [push_cast, seval, *] at hc; done) | (exact absurd hc (by decide)) | ((try first | rw [Bool.not_true] at hc | rw [Bool.not_false] at hc); first | (with_reducible replace hc := tTT hc); clear hc | (with_reducible replace hc := tFF hc); clear hc | (have hp := hc; try simp only [decide_eq_true_eq, decide_eq_false_iff_not, bA, bB, bC, bD, bE, bF, bG, bH] at hp))))
    | (refine Kn.go hK ?_; clear hK K)
    | refine Kn.go (by assumption) ?_
    | (intro n hn; (try simp only [upd_none2, join_none_iff, ite_none, ne_eq] at hn); (try simp only [push_cast, seval, *]))
    | (intro hc)
    | fail)
    exact ⟨_, H2, Weak.less (by repeat' (first | exact unhid l1 | refine le_skip ?_ (unhid l4))), y1, y2, y3, rfl, unhid l2⟩
theorem runReady_o (o : Op16) (ho : o.names.length ≤ maxLen ∧ o.recs.length ≤ maxLen) (c : Lg) (hf : c.fits) (hk : kdS o = 4 ∨ kdS o = 5) (H : Heap) :
    ACall Try.prog 26 [.g (Op16.av o), .g (Lg.av c)] H fun r H' => ∃ y1 y2 y3, r = .t [gl y1 y2 y3, .c (.int .i64 0), .c (.int .i64 (readyR c o.nm).2)] ∧ OwnG y1 y2 y3 (readyR c o.nm).1 H' H := by
  have hx := Ready_o c hf o.nm
  generalize readyR c o.nm = R at *
  obtain ⟨R1, R2⟩ := R
  unfold kdS at hk
  obtain ⟨kd, ⟨nms, nma, nmn⟩, nl, rl⟩ := o
  obtain ⟨a, b, cc⟩ := c
  simp only [Op16.av, Lg.av, Nm.av] at hx ⊢
  simp only at hk
  generalize hU : IntKind.u64.wrap kd = U at hk
  clear hf ho
  replace hx := Lib.hid hx
  rcases hk with hk | hk
  all_goals
    refine ACall_of' Try.func26 rfl (Ent_of Try.func26 (by kernel_rfl) rfl) (by simp [Try.ntmps26]) ?_; simp only [Try.ntmps26, Try.results26]
    repeat' (first
    | refine AW_seq_kn fun K hK => ?_
    | refine AW_block ?_
    | ((first
      | refine AW_region_draw (id := 8) E0 (fun f => [].contains f) dLU0 dAU0 mixed (by kernel_rfl) ?_
      | refine AW_region_draw (id := 14) E0 (fun f => [].contains f) dLU1 dAU1 mixed (by kernel_rfl) ?_
      | refine AW_region_draw (id := 2) E0 (fun f => [].contains f) dLU2 dAU2 mixed (by kernel_rfl) ?_
      | refine AW_region E0 ?_ | refine AW_ret ?_ | refine AW_exit ?_ | refine AW_skip ?_ | unfold retQ); try simp only [push_cast, seval, *])
    | (apply AW_cond; (case hc => (simp only [push_cast, seval]; rfl)); all_goals (intro hc; first | (exfalso; simp only [push_cast, seval, *] at hc; done) | (exact absurd hc (by decide)) | ((try first | rw [Bool.not_true] at hc | rw [Bool.not_false] at hc); first | (with_reducible replace hc := tTT hc); clear hc | (with_reducible replace hc := tFF hc); clear hc | (have hp := hc; try simp only [decide_eq_true_eq, decide_eq_false_iff_not, bA, bB, bC, bD, bE, bF, bG, bH] at hp))))
    | (refine Kn.go hK ?_; clear hK K)
    | refine Kn.go (by assumption) ?_
    | (intro n hn; (try simp only [upd_none2, join_none_iff, ite_none, ne_eq] at hn); (try simp only [push_cast, seval, *]))
    | (intro hc)
    | fail)
    rename_i n1 h1 n2 h2
    generalize n = n4 at *
    obtain ⟨Gs, hGs⟩ : ∃ Gs : Heap, Gs = upd (upd (upd H n1 (.r 51 6 1 [[.c (.int .i64 kd), .c (.int .i64 nms), .c (.int .i64 nma), .c (.int .i64 nmn), .l 3 (nl.map Nm.av), .l 3 (rl.map Rec.av)]])) n2 (.r 47 3 1 [[.l 5 (a.map Tx.av), .l 3 (b.map Nm.av), .l 3 (cc.map Rec.av)]])) n4 (.r 47 3 1 [zL]) := ⟨_, rfl⟩
    have g4 : Gs n4 = some (.r 47 3 1 [zL]) := by rw [hGs]; exact upd_same _ _ _
    have gn4 : H n4 = none := hn.2.2
    have hle : Heap.le H Gs := by rw [hGs]; (repeat' (first | exact Heap.le_refl _ | refine hle_upd2 ?_ _ _ | (refine Heap.le_new ?_ ?_; rotate_left 1; focus (first | assumption | (simp only [upd_none2, upd_get, ne_eq, push_cast, seval, *]; done) | (simp [upd_get, *]; done)))))
    rw [← hGs]
    clear hGs h1 h2 hn
    refine does_call rfl rfl ?_
    simp only [push_cast, seval, *]
    refine ACall.mono (unhid hx Gs) ?_
    rintro _ H' ⟨y1, y2, y3, rfl, ho⟩
    have k4 := (OwnG_loc y1 y2 y3 R1).get ho g4
    obtain ⟨H2, l1, l2, l3⟩ := (OwnG_loc y1 y2 y3 R1).cutx ho (K := H) hle
    have l4 := l3 n4 (by rw [g4]; simp) gn4
    obtain ⟨⟨cs1, cs2, cs3⟩, os1, os2, os3⟩ := OwnG_cs l2
    have o4 := ne_old k4
    clear hx g4 gn4 hle l3 ho hU
    replace l1 := Lib.hid l1
    replace l2 := Lib.hid l2
    replace l4 := Lib.hid l4
    (try simp only [push_cast, seval, *])
    repeat' (first
    | refine AW_seq_kn fun K hK => ?_
    | refine AW_block ?_
    | ((first
      | refine AW_region_draw (id := 8) E0 (fun f => [].contains f) dLU0 dAU0 mixed (by kernel_rfl) ?_
      | refine AW_region_draw (id := 14) E0 (fun f => [].contains f) dLU1 dAU1 mixed (by kernel_rfl) ?_
      | refine AW_region_draw (id := 2) E0 (fun f => [].contains f) dLU2 dAU2 mixed (by kernel_rfl) ?_
      | refine AW_region E0 ?_ | refine AW_ret ?_ | refine AW_exit ?_ | refine AW_skip ?_ | unfold retQ); try simp only [push_cast, seval, *])
    | (apply AW_cond; (case hc => (simp only [push_cast, seval]; rfl)); all_goals (intro hc; first | (exfalso; simp only [push_cast, seval, *] at hc; done) | (exact absurd hc (by decide)) | ((try first | rw [Bool.not_true] at hc | rw [Bool.not_false] at hc); first | (with_reducible replace hc := tTT hc); clear hc | (with_reducible replace hc := tFF hc); clear hc | (have hp := hc; try simp only [decide_eq_true_eq, decide_eq_false_iff_not, bA, bB, bC, bD, bE, bF, bG, bH] at hp))))
    | (refine Kn.go hK ?_; clear hK K)
    | refine Kn.go (by assumption) ?_
    | (intro n hn; (try simp only [upd_none2, join_none_iff, ite_none, ne_eq] at hn); (try simp only [push_cast, seval, *]))
    | (intro hc)
    | fail)
    exact ⟨_, H2, Weak.less (by repeat' (first | exact unhid l1 | refine le_skip ?_ (unhid l4))), y1, y2, y3, rfl, unhid l2⟩
theorem runCommit_o (o : Op16) (ho : o.names.length ≤ maxLen ∧ o.recs.length ≤ maxLen) (c : Lg) (hf : c.fits) (hk : kdS o = 6 ∨ kdS o = 7) (H : Heap) :
    ACall Try.prog 26 [.g (Op16.av o), .g (Lg.av c)] H fun r H' => ∃ y1 y2 y3, r = .t [gl y1 y2 y3, .c (.int .i64 0), .c (.int .i64 (commitR c (o.names.take 30)).2)] ∧ OwnG y1 y2 y3 (commitR c (o.names.take 30)).1 H' H := by
  have hx := Commit_o c hf (o.names.take 30) (by simp [maxLen]; omega)
  have hpre := names_p o.names ho.1
  generalize commitR c (o.names.take 30) = R at *
  obtain ⟨R1, R2⟩ := R
  generalize o.names.take 30 = ns at *
  unfold kdS at hk
  obtain ⟨kd, ⟨nms, nma, nmn⟩, nl, rl⟩ := o
  obtain ⟨a, b, cc⟩ := c
  simp only [Op16.av, Lg.av, Nm.av] at hx ⊢
  simp only at hk hpre
  generalize hU : IntKind.u64.wrap kd = U at hk
  clear hf ho
  replace hx := Lib.hid hx
  rcases hk with hk | hk
  all_goals
    refine ACall_of' Try.func26 rfl (Ent_of Try.func26 (by kernel_rfl) rfl) (by simp [Try.ntmps26]) ?_; simp only [Try.ntmps26, Try.results26]
    repeat' (first
    | refine AW_seq_kn fun K hK => ?_
    | refine AW_block ?_
    | (refine does_call rfl rfl ?_; simp only [push_cast, seval, *]; refine ACall.monoP (hpre _) ?_; (try simp only [push_cast, seval, *]))
    | ((first
      | refine AW_region_draw (id := 8) E0 (fun f => [].contains f) dLU0 dAU0 mixed (by kernel_rfl) ?_
      | refine AW_region_draw (id := 14) E0 (fun f => [].contains f) dLU1 dAU1 mixed (by kernel_rfl) ?_
      | refine AW_region_draw (id := 2) E0 (fun f => [].contains f) dLU2 dAU2 mixed (by kernel_rfl) ?_
      | refine AW_region E0 ?_ | refine AW_ret ?_ | refine AW_exit ?_ | refine AW_skip ?_ | unfold retQ); try simp only [push_cast, seval, *])
    | (apply AW_cond; (case hc => (simp only [push_cast, seval]; rfl)); all_goals (intro hc; first | (exfalso; simp only [push_cast, seval, *] at hc; done) | (exact absurd hc (by decide)) | ((try first | rw [Bool.not_true] at hc | rw [Bool.not_false] at hc); first | (with_reducible replace hc := tTT hc); clear hc | (with_reducible replace hc := tFF hc); clear hc | (have hp := hc; try simp only [decide_eq_true_eq, decide_eq_false_iff_not, bA, bB, bC, bD, bE, bF, bG, bH] at hp))))
    | (refine Kn.go hK ?_; clear hK K)
    | refine Kn.go (by assumption) ?_
    | (intro n hn; (try simp only [upd_none2, join_none_iff, ite_none, ne_eq] at hn); (try simp only [push_cast, seval, *]))
    | (intro hc)
    | fail)
    rename_i n1 h1 n2 h2
    generalize n = n4 at *
    obtain ⟨Gs, hGs⟩ : ∃ Gs : Heap, Gs = upd (upd (upd H n1 (.r 51 6 1 [[.c (.int .i64 kd), .c (.int .i64 nms), .c (.int .i64 nma), .c (.int .i64 nmn), .l 3 (nl.map Nm.av), .l 3 (rl.map Rec.av)]])) n2 (.r 47 3 1 [[.l 5 (a.map Tx.av), .l 3 (b.map Nm.av), .l 3 (cc.map Rec.av)]])) n4 (.r 47 3 1 [zL]) := ⟨_, rfl⟩
    have g4 : Gs n4 = some (.r 47 3 1 [zL]) := by rw [hGs]; exact upd_same _ _ _
    have gn4 : H n4 = none := hn.2.2
    have hle : Heap.le H Gs := by rw [hGs]; (repeat' (first | exact Heap.le_refl _ | refine hle_upd2 ?_ _ _ | (refine Heap.le_new ?_ ?_; rotate_left 1; focus (first | assumption | (simp only [upd_none2, upd_get, ne_eq, push_cast, seval, *]; done) | (simp [upd_get, *]; done)))))
    rw [← hGs]
    clear hGs h1 h2 hn
    refine does_call rfl rfl ?_
    simp only [push_cast, seval, *]
    refine ACall.mono (unhid hx Gs) ?_
    rintro _ H' ⟨y1, y2, y3, rfl, ho⟩
    have k4 := (OwnG_loc y1 y2 y3 R1).get ho g4
    obtain ⟨H2, l1, l2, l3⟩ := (OwnG_loc y1 y2 y3 R1).cutx ho (K := H) hle
    have l4 := l3 n4 (by rw [g4]; simp) gn4
    obtain ⟨⟨cs1, cs2, cs3⟩, os1, os2, os3⟩ := OwnG_cs l2
    have o4 := ne_old k4
    clear hx g4 gn4 hle l3 ho hpre hU
    replace l1 := Lib.hid l1
    replace l2 := Lib.hid l2
    replace l4 := Lib.hid l4
    (try simp only [push_cast, seval, *])
    repeat' (first
    | refine AW_seq_kn fun K hK => ?_
    | refine AW_block ?_
    | ((first
      | refine AW_region_draw (id := 8) E0 (fun f => [].contains f) dLU0 dAU0 mixed (by kernel_rfl) ?_
      | refine AW_region_draw (id := 14) E0 (fun f => [].contains f) dLU1 dAU1 mixed (by kernel_rfl) ?_
      | refine AW_region_draw (id := 2) E0 (fun f => [].contains f) dLU2 dAU2 mixed (by kernel_rfl) ?_
      | refine AW_region E0 ?_ | refine AW_ret ?_ | refine AW_exit ?_ | refine AW_skip ?_ | unfold retQ); try simp only [push_cast, seval, *])
    | (apply AW_cond; (case hc => (simp only [push_cast, seval]; rfl)); all_goals (intro hc; first | (exfalso; simp only [push_cast, seval, *] at hc; done) | (exact absurd hc (by decide)) | ((try first | rw [Bool.not_true] at hc | rw [Bool.not_false] at hc); first | (with_reducible replace hc := tTT hc); clear hc | (with_reducible replace hc := tFF hc); clear hc | (have hp := hc; try simp only [decide_eq_true_eq, decide_eq_false_iff_not, bA, bB, bC, bD, bE, bF, bG, bH] at hp))))
    | (refine Kn.go hK ?_; clear hK K)
    | refine Kn.go (by assumption) ?_
    | (intro n hn; (try simp only [upd_none2, join_none_iff, ite_none, ne_eq] at hn); (try simp only [push_cast, seval, *]))
    | (intro hc)
    | fail)
    exact ⟨_, H2, Weak.less (by repeat' (first | exact unhid l1 | refine le_skip ?_ (unhid l4))), y1, y2, y3, rfl, unhid l2⟩
theorem runAbort_o (o : Op16) (ho : o.names.length ≤ maxLen ∧ o.recs.length ≤ maxLen) (c : Lg) (hf : c.fits) (hk : kdS o = 8) (H : Heap) :
    ACall Try.prog 26 [.g (Op16.av o), .g (Lg.av c)] H fun r H' => ∃ y1 y2 y3, r = .t [gl y1 y2 y3, .c (.int .i64 (abortR c (o.names.take 30)).2.1), .c (.int .i64 (abortR c (o.names.take 30)).2.2)] ∧ OwnG y1 y2 y3 (abortR c (o.names.take 30)).1 H' H := by
  have hx := Abort_o c hf (o.names.take 30) (by simp [maxLen]; omega)
  have hpre := names_p o.names ho.1
  generalize abortR c (o.names.take 30) = R at *
  obtain ⟨R1, Rg, R2⟩ := R
  generalize o.names.take 30 = ns at *
  unfold kdS at hk
  obtain ⟨kd, ⟨nms, nma, nmn⟩, nl, rl⟩ := o
  obtain ⟨a, b, cc⟩ := c
  simp only [Op16.av, Lg.av, Nm.av] at hx ⊢
  simp only at hk hpre
  generalize hU : IntKind.u64.wrap kd = U at hk
  clear hf ho
  replace hx := Lib.hid hx
  · skip
    refine ACall_of' Try.func26 rfl (Ent_of Try.func26 (by kernel_rfl) rfl) (by simp [Try.ntmps26]) ?_; simp only [Try.ntmps26, Try.results26]
    repeat' (first
    | refine AW_seq_kn fun K hK => ?_
    | refine AW_block ?_
    | (refine does_call rfl rfl ?_; simp only [push_cast, seval, *]; refine ACall.monoP (hpre _) ?_; (try simp only [push_cast, seval, *]))
    | ((first
      | refine AW_region_draw (id := 8) E0 (fun f => [].contains f) dLU0 dAU0 mixed (by kernel_rfl) ?_
      | refine AW_region_draw (id := 14) E0 (fun f => [].contains f) dLU1 dAU1 mixed (by kernel_rfl) ?_
      | refine AW_region_draw (id := 2) E0 (fun f => [].contains f) dLU2 dAU2 mixed (by kernel_rfl) ?_
      | refine AW_region E0 ?_ | refine AW_ret ?_ | refine AW_exit ?_ | refine AW_skip ?_ | unfold retQ); try simp only [push_cast, seval, *])
    | (apply AW_cond; (case hc => (simp only [push_cast, seval]; rfl)); all_goals (intro hc; first | (exfalso; simp only [push_cast, seval, *] at hc; done) | (exact absurd hc (by decide)) | ((try first | rw [Bool.not_true] at hc | rw [Bool.not_false] at hc); first | (with_reducible replace hc := tTT hc); clear hc | (with_reducible replace hc := tFF hc); clear hc | (have hp := hc; try simp only [decide_eq_true_eq, decide_eq_false_iff_not, bA, bB, bC, bD, bE, bF, bG, bH] at hp))))
    | (refine Kn.go hK ?_; clear hK K)
    | refine Kn.go (by assumption) ?_
    | (intro n hn; (try simp only [upd_none2, join_none_iff, ite_none, ne_eq] at hn); (try simp only [push_cast, seval, *]))
    | (intro hc)
    | fail)
    rename_i n1 h1 n2 h2
    generalize n = n4 at *
    obtain ⟨Gs, hGs⟩ : ∃ Gs : Heap, Gs = upd (upd (upd H n1 (.r 51 6 1 [[.c (.int .i64 kd), .c (.int .i64 nms), .c (.int .i64 nma), .c (.int .i64 nmn), .l 3 (nl.map Nm.av), .l 3 (rl.map Rec.av)]])) n2 (.r 47 3 1 [[.l 5 (a.map Tx.av), .l 3 (b.map Nm.av), .l 3 (cc.map Rec.av)]])) n4 (.r 47 3 1 [zL]) := ⟨_, rfl⟩
    have g4 : Gs n4 = some (.r 47 3 1 [zL]) := by rw [hGs]; exact upd_same _ _ _
    have gn4 : H n4 = none := hn.2.2
    have hle : Heap.le H Gs := by rw [hGs]; (repeat' (first | exact Heap.le_refl _ | refine hle_upd2 ?_ _ _ | (refine Heap.le_new ?_ ?_; rotate_left 1; focus (first | assumption | (simp only [upd_none2, upd_get, ne_eq, push_cast, seval, *]; done) | (simp [upd_get, *]; done)))))
    rw [← hGs]
    clear hGs h1 h2 hn
    refine does_call rfl rfl ?_
    simp only [push_cast, seval, *]
    refine ACall.mono (unhid hx Gs) ?_
    rintro _ H' ⟨y1, y2, y3, rfl, ho⟩
    have k4 := (OwnG_loc y1 y2 y3 R1).get ho g4
    obtain ⟨H2, l1, l2, l3⟩ := (OwnG_loc y1 y2 y3 R1).cutx ho (K := H) hle
    have l4 := l3 n4 (by rw [g4]; simp) gn4
    obtain ⟨⟨cs1, cs2, cs3⟩, os1, os2, os3⟩ := OwnG_cs l2
    have o4 := ne_old k4
    clear hx g4 gn4 hle l3 ho hpre hU
    replace l1 := Lib.hid l1
    replace l2 := Lib.hid l2
    replace l4 := Lib.hid l4
    (try simp only [push_cast, seval, *])
    repeat' (first
    | refine AW_seq_kn fun K hK => ?_
    | refine AW_block ?_
    | ((first
      | refine AW_region_draw (id := 8) E0 (fun f => [].contains f) dLU0 dAU0 mixed (by kernel_rfl) ?_
      | refine AW_region_draw (id := 14) E0 (fun f => [].contains f) dLU1 dAU1 mixed (by kernel_rfl) ?_
      | refine AW_region_draw (id := 2) E0 (fun f => [].contains f) dLU2 dAU2 mixed (by kernel_rfl) ?_
      | refine AW_region E0 ?_ | refine AW_ret ?_ | refine AW_exit ?_ | refine AW_skip ?_ | unfold retQ); try simp only [push_cast, seval, *])
    | (apply AW_cond; (case hc => (simp only [push_cast, seval]; rfl)); all_goals (intro hc; first | (exfalso; simp only [push_cast, seval, *] at hc; done) | (exact absurd hc (by decide)) | ((try first | rw [Bool.not_true] at hc | rw [Bool.not_false] at hc); first | (with_reducible replace hc := tTT hc); clear hc | (with_reducible replace hc := tFF hc); clear hc | (have hp := hc; try simp only [decide_eq_true_eq, decide_eq_false_iff_not, bA, bB, bC, bD, bE, bF, bG, bH] at hp))))
    | (refine Kn.go hK ?_; clear hK K)
    | refine Kn.go (by assumption) ?_
    | (intro n hn; (try simp only [upd_none2, join_none_iff, ite_none, ne_eq] at hn); (try simp only [push_cast, seval, *]))
    | (intro hc)
    | fail)
    exact ⟨_, H2, Weak.less (by repeat' (first | exact unhid l1 | refine le_skip ?_ (unhid l4))), y1, y2, y3, rfl, unhid l2⟩
theorem run_o (o : Op16) (ho : o.names.length ≤ maxLen ∧ o.recs.length ≤ maxLen) (c : Lg) (hf : c.fits) (H : Heap) :
    ACall Try.prog 26 [.g (Op16.av o), .g (Lg.av c)] H fun r H' => ∃ y1 y2 y3, r = .t [gl y1 y2 y3, .c (.int .i64 (runR c o).2.1), .c (.int .i64 (runR c o).2.2)] ∧ OwnG y1 y2 y3 (runR c o).1 H' H := by
  obtain ⟨h0, h9⟩ := kdS_bd o
  unfold runR
  by_cases h2 : kdS o < 2
  · simp only [if_pos h2]; exact runOpen_o o ho c hf (by omega) H
  simp only [if_neg h2]
  by_cases h4 : kdS o < 4
  · simp only [if_pos h4]; exact runWrite_o o ho c hf (by omega) H
  simp only [if_neg h4]
  by_cases h6 : kdS o < 6
  · simp only [if_pos h6]; exact runReady_o o ho c hf (by omega) H
  simp only [if_neg h6]
  by_cases h8 : kdS o < 8
  · simp only [if_pos h8]; exact runCommit_o o ho c hf (by omega) H
  simp only [if_neg h8]
  exact runAbort_o o ho c hf (by omega) H
end Go.Proofs.Ytdeckjoeggmagaa
