/- Acts on a log, one by one. -/
import Derived.Test.YtdeckjoeggmagaaP
import Derived.Test.YtdeckjoeggmagaaSA
namespace Go.Proofs.Ytdeckjoeggmagaa
open Go.RowKit
open Nat renaming reduceEqDiff → nA, reduceLT → nB, reduceLeDiff → nC, reduceAdd → nD, reduceMul → nE, reduceSub → nF, reduceBEq → nG
open Int renaming reduceToNat → iA, reduceLT → iB, reduceLE → iC, reduceEq → iD
open Bool renaming and_eq_true → bA, or_eq_true → bB, or_eq_false_iff → bC, and_eq_false_iff → bD, not_eq_true' → bE, not_eq_false' → bF, not_true → bG, not_false → bH
set_option linter.all false
set_option maxHeartbeats 4000000
attribute [local irreducible] AW Does ACall tE tS tB tZ
set_option maxRecDepth 5000

theorem Write_m (l : Lg) (hf : l.fits) (v : Nm) (r : Rec) {M : Heap} {m : Nat} (hm : M m = some (.r 36 3 1 [Rec.av r])) :
    ACall Try.prog 54 [.g (Lg.av l), .g (Nm.av v), .s m 3 0 1 1] M fun r' H' => ∃ y1 y2 y3, r' = .t [gl y1 y2 y3, .c (.int .i64 (writeR l v [r]).2)] ∧ OwnG y1 y2 y3 (writeR l v [r]).1 H' M :=
  opL (vs := [.int .i64 (writeR l v [r]).2]) (args' := [.g (Lg.av l), .g (Nm.av v), .l 3 ([r].map Rec.av)]) (show Lent M _ _ ∧ Lent M _ _ ∧ Lent M _ _ ∧ True from ⟨Lent.refl _ _, Lent.refl _ _, Lent.s (rows := [Rec.av r]) hm, trivial⟩) (Write_o l hf v [r] (by simp) emp)
def actR (l : Lg) (a : Act) : Lg × Int := if a.kind = 1 then openR l a.nm else if a.kind = 2 then writeR l a.nm [a.rc] else readyR l a.nm
theorem do1_o (a : Act) (c : Lg) (hf : c.fits) (H : Heap) :
    ACall Try.prog 99 [.g (Lg.av c), .g (Act.av a)] H fun r H' => ∃ y1 y2 y3, r = .t [gl y1 y2 y3, .c (.int .i64 (openR c a.nm).2)] ∧ OwnG y1 y2 y3 (openR c a.nm).1 H' H := by
  have hx := Open_o c hf a.nm
  generalize openR c a.nm = R at *
  obtain ⟨R1, R2⟩ := R
  obtain ⟨kd, ⟨vs, va, vn⟩, ⟨rs, rk, rv⟩⟩ := a
  obtain ⟨ct, cd, cl⟩ := c
  simp only [Act.av, Lg.av, Nm.av] at hx ⊢
  clear hf
  replace hx := Lib.hid hx
  refine ACall_of' Try.func99 rfl (Ent_of Try.func99 (by kernel_rfl) rfl) (by simp [Try.ntmps99]) ?_; simp only [Try.ntmps99, Try.results99]
  repeat' (first
    | refine AW_seq_kn fun K hK => ?_
    | refine AW_block ?_
    | ((first
      | refine AW_region E0 ?_ | refine AW_ret ?_ | refine AW_exit ?_ | refine AW_skip ?_ | unfold retQ); try simp only [push_cast, seval, *])
    | (apply AW_cond; (case hc => (simp only [push_cast, seval]; rfl)); all_goals (intro hc; first | (exfalso; simp only [push_cast, seval, *] at hc; done) | (exact absurd hc (by decide)) | ((try first | rw [Bool.not_true] at hc | rw [Bool.not_false] at hc); first | (with_reducible replace hc := tTT hc); clear hc | (with_reducible replace hc := tFF hc); clear hc | (have hp := hc; try simp only [decide_eq_true_eq, decide_eq_false_iff_not, bA, bB, bC, bD, bE, bF, bG, bH] at hp))))
    | (refine Kn.go hK ?_; clear hK K)
    | refine Kn.go (by assumption) ?_
    | (intro n hn; (try simp only [upd_none2, join_none_iff, ite_none, ne_eq] at hn); (try simp only [push_cast, seval, *]))
    | (intro hc)
    | fail)
  rename_i n1 h1 n2 h2
  generalize n = n4 at *
  obtain ⟨Gs, hGs⟩ : ∃ Gs : Heap, Gs = upd (upd (upd H n1 (.r 47 3 1 [[.l 5 (ct.map Tx.av), .l 3 (cd.map Nm.av), .l 3 (cl.map Rec.av)]])) n2 (.r 61 7 1 [[.c (.int .i64 kd), .c (.int .i64 vs), .c (.int .i64 va), .c (.int .i64 vn), .c (.int .i64 rs), .c (.int .i64 rk), .c (.int .i64 rv)]])) n4 (.r 47 3 1 [zL]) := ⟨_, rfl⟩
  have g4 : Gs n4 = some (.r 47 3 1 [zL]) := by rw [hGs]; exact upd_same _ _ _
  have gn4 : H n4 = none := hn.2.2
  have hle : Heap.le H Gs := by rw [hGs]; (repeat' (first | exact Heap.le_refl _ | refine hle_upd2 ?_ _ _ | (refine Heap.le_new ?_ ?_; rotate_left 1; focus (first | assumption | (simp only [upd_none2, upd_get, ne_eq, push_cast, seval, *]; done) | (simp [upd_get, *]; done)))))
  rw [← hGs]
  clear hGs h1 h2 hn
  refine does_call rfl rfl ?_
  simp only [push_cast, seval, *]
  refine ACall.mono (unhid hx Gs) ?_
  rintro _ H' ⟨y1, y2, y3, rfl, ho⟩
  have k4 := (OwnG_loc y1 y2 y3 R1).get ho g4
  obtain ⟨H2, l1, l2, l3⟩ := (OwnG_loc y1 y2 y3 R1).cutx ho (K := H) hle
  have l4 := l3 n4 (by rw [g4]; simp) gn4
  obtain ⟨⟨cs1, cs2, cs3⟩, os1, os2, os3⟩ := OwnG_cs l2
  have o4 := ne_old k4
  clear hx g4 gn4 hle l3 ho
  replace l1 := Lib.hid l1
  replace l2 := Lib.hid l2
  replace l4 := Lib.hid l4
  (try simp only [push_cast, seval, *])
  repeat' (first
    | refine AW_seq_kn fun K hK => ?_
    | refine AW_block ?_
    | ((first
      | refine AW_region E0 ?_ | refine AW_ret ?_ | refine AW_exit ?_ | refine AW_skip ?_ | unfold retQ); try simp only [push_cast, seval, *])
    | (apply AW_cond; (case hc => (simp only [push_cast, seval]; rfl)); all_goals (intro hc; first | (exfalso; simp only [push_cast, seval, *] at hc; done) | (exact absurd hc (by decide)) | ((try first | rw [Bool.not_true] at hc | rw [Bool.not_false] at hc); first | (with_reducible replace hc := tTT hc); clear hc | (with_reducible replace hc := tFF hc); clear hc | (have hp := hc; try simp only [decide_eq_true_eq, decide_eq_false_iff_not, bA, bB, bC, bD, bE, bF, bG, bH] at hp))))
    | (refine Kn.go hK ?_; clear hK K)
    | refine Kn.go (by assumption) ?_
    | (intro n hn; (try simp only [upd_none2, join_none_iff, ite_none, ne_eq] at hn); (try simp only [push_cast, seval, *]))
    | (intro hc)
    | fail)
  exact ⟨_, H2, Weak.less (by repeat' (first | exact unhid l1 | refine le_skip ?_ (unhid l4))), y1, y2, y3, rfl, unhid l2⟩
theorem do2_o (a : Act) (c : Lg) (hf : c.fits) (H : Heap) :
    ACall Try.prog 100 [.g (Lg.av c), .g (Act.av a)] H fun r H' => ∃ y1 y2 y3, r = .t [gl y1 y2 y3, .c (.int .i64 (writeR c a.nm [a.rc]).2)] ∧ OwnG y1 y2 y3 (writeR c a.nm [a.rc]).1 H' H := by
  have hx := fun M m hm => Write_m c hf a.nm a.rc (M := M) (m := m) hm
  generalize writeR c a.nm [a.rc] = R at *
  obtain ⟨R1, R2⟩ := R
  obtain ⟨kd, ⟨vs, va, vn⟩, ⟨rs, rk, rv⟩⟩ := a
  obtain ⟨ct, cd, cl⟩ := c
  simp only [Act.av, Lg.av, Nm.av, Rec.av] at hx ⊢
  clear hf
  replace hx := Lib.hid hx
  refine ACall_of' Try.func100 rfl (Ent_of Try.func100 (by kernel_rfl) rfl) (by simp [Try.ntmps100]) ?_; simp only [Try.ntmps100, Try.results100]
  repeat' (first
    | refine AW_seq_kn fun K hK => ?_
    | refine AW_block ?_
    | ((first
      | refine AW_region E0 ?_ | refine AW_ret ?_ | refine AW_exit ?_ | refine AW_skip ?_ | unfold retQ); try simp only [push_cast, seval, *])
    | (apply AW_cond; (case hc => (simp only [push_cast, seval]; rfl)); all_goals (intro hc; first | (exfalso; simp only [push_cast, seval, *] at hc; done) | (exact absurd hc (by decide)) | ((try first | rw [Bool.not_true] at hc | rw [Bool.not_false] at hc); first | (with_reducible replace hc := tTT hc); clear hc | (with_reducible replace hc := tFF hc); clear hc | (have hp := hc; try simp only [decide_eq_true_eq, decide_eq_false_iff_not, bA, bB, bC, bD, bE, bF, bG, bH] at hp))))
    | (refine Kn.go hK ?_; clear hK K)
    | refine Kn.go (by assumption) ?_
    | (intro n hn; (try simp only [upd_none2, join_none_iff, ite_none, ne_eq] at hn); (try simp only [push_cast, seval, *]))
    | (intro hc)
    | fail)
  rename_i n1 h1 n2 h2 n4 h4
  generalize n = m at *
  obtain ⟨Gs, hGs⟩ : ∃ Gs : Heap, Gs = upd (upd (upd (upd H n1 (.r 47 3 1 [[.l 5 (ct.map Tx.av), .l 3 (cd.map Nm.av), .l 3 (cl.map Rec.av)]])) n2 (.r 61 7 1 [[.c (.int .i64 kd), .c (.int .i64 vs), .c (.int .i64 va), .c (.int .i64 vn), .c (.int .i64 rs), .c (.int .i64 rk), .c (.int .i64 rv)]])) n4 (.r 47 3 1 [zL])) m (.r 36 3 1 [[.c (.int .i64 rs), .c (.int .i64 rk), .c (.int .i64 rv)]]) := ⟨_, rfl⟩
  have g4 : Gs n4 = some (.r 47 3 1 [zL]) := by rw [hGs]; simp only [push_cast, seval, upd_get, *]
  have gm : Gs m = some (.r 36 3 1 [[.c (.int .i64 rs), .c (.int .i64 rk), .c (.int .i64 rv)]]) := by rw [hGs]; exact upd_same _ _ _
  have gn4 : H n4 = none := h4.2.2
  have hle : Heap.le H Gs := by rw [hGs]; (repeat' (first | exact Heap.le_refl _ | refine hle_upd2 ?_ _ _ | (refine Heap.le_new ?_ ?_; rotate_left 1; focus (first | assumption | (simp only [upd_none2, upd_get, ne_eq, push_cast, seval, *]; done) | (simp [upd_get, *]; done)))))
  rw [← hGs]
  clear hGs h1 h2 hn h4
  refine does_call rfl rfl ?_
  simp only [push_cast, seval, *]
  refine ACall.mono (unhid hx _ m gm) ?_
  rintro _ H' ⟨y1, y2, y3, rfl, ho⟩
  have k4 := (OwnG_loc y1 y2 y3 R1).get ho g4
  obtain ⟨H2, l1, l2, l3⟩ := (OwnG_loc y1 y2 y3 R1).cutx ho (K := H) hle
  have l4 := l3 n4 (by rw [g4]; simp) gn4
  obtain ⟨⟨cs1, cs2, cs3⟩, os1, os2, os3⟩ := OwnG_cs l2
  have o4 := ne_old k4
  clear hx g4 gn4 hle l3 ho gm
  replace l1 := Lib.hid l1
  replace l2 := Lib.hid l2
  replace l4 := Lib.hid l4
  (try simp only [push_cast, seval, *])
  repeat' (first
    | refine AW_seq_kn fun K hK => ?_
    | refine AW_block ?_
    | ((first
      | refine AW_region E0 ?_ | refine AW_ret ?_ | refine AW_exit ?_ | refine AW_skip ?_ | unfold retQ); try simp only [push_cast, seval, *])
    | (apply AW_cond; (case hc => (simp only [push_cast, seval]; rfl)); all_goals (intro hc; first | (exfalso; simp only [push_cast, seval, *] at hc; done) | (exact absurd hc (by decide)) | ((try first | rw [Bool.not_true] at hc | rw [Bool.not_false] at hc); first | (with_reducible replace hc := tTT hc); clear hc | (with_reducible replace hc := tFF hc); clear hc | (have hp := hc; try simp only [decide_eq_true_eq, decide_eq_false_iff_not, bA, bB, bC, bD, bE, bF, bG, bH] at hp))))
    | (refine Kn.go hK ?_; clear hK K)
    | refine Kn.go (by assumption) ?_
    | (intro n hn; (try simp only [upd_none2, join_none_iff, ite_none, ne_eq] at hn); (try simp only [push_cast, seval, *]))
    | (intro hc)
    | fail)
  exact ⟨_, H2, Weak.less (by repeat' (first | exact unhid l1 | refine le_skip ?_ (unhid l4))), y1, y2, y3, rfl, unhid l2⟩
theorem do3_o (a : Act) (c : Lg) (hf : c.fits) (H : Heap) :
    ACall Try.prog 101 [.g (Lg.av c), .g (Act.av a)] H fun r H' => ∃ y1 y2 y3, r = .t [gl y1 y2 y3, .c (.int .i64 (readyR c a.nm).2)] ∧ OwnG y1 y2 y3 (readyR c a.nm).1 H' H := by
  have hx := Ready_o c hf a.nm
  generalize readyR c a.nm = R at *
  obtain ⟨R1, R2⟩ := R
  obtain ⟨kd, ⟨vs, va, vn⟩, ⟨rs, rk, rv⟩⟩ := a
  obtain ⟨ct, cd, cl⟩ := c
  simp only [Act.av, Lg.av, Nm.av] at hx ⊢
  clear hf
  replace hx := Lib.hid hx
  refine ACall_of' Try.func101 rfl (Ent_of Try.func101 (by kernel_rfl) rfl) (by simp [Try.ntmps101]) ?_; simp only [Try.ntmps101, Try.results101]
  repeat' (first
    | refine AW_seq_kn fun K hK => ?_
    | refine AW_block ?_
    | ((first
      | refine AW_region E0 ?_ | refine AW_ret ?_ | refine AW_exit ?_ | refine AW_skip ?_ | unfold retQ); try simp only [push_cast, seval, *])
    | (apply AW_cond; (case hc => (simp only [push_cast, seval]; rfl)); all_goals (intro hc; first | (exfalso; simp only [push_cast, seval, *] at hc; done) | (exact absurd hc (by decide)) | ((try first | rw [Bool.not_true] at hc | rw [Bool.not_false] at hc); first | (with_reducible replace hc := tTT hc); clear hc | (with_reducible replace hc := tFF hc); clear hc | (have hp := hc; try simp only [decide_eq_true_eq, decide_eq_false_iff_not, bA, bB, bC, bD, bE, bF, bG, bH] at hp))))
    | (refine Kn.go hK ?_; clear hK K)
    | refine Kn.go (by assumption) ?_
    | (intro n hn; (try simp only [upd_none2, join_none_iff, ite_none, ne_eq] at hn); (try simp only [push_cast, seval, *]))
    | (intro hc)
    | fail)
  rename_i n1 h1 n2 h2
  generalize n = n4 at *
  obtain ⟨Gs, hGs⟩ : ∃ Gs : Heap, Gs = upd (upd (upd H n1 (.r 47 3 1 [[.l 5 (ct.map Tx.av), .l 3 (cd.map Nm.av), .l 3 (cl.map Rec.av)]])) n2 (.r 61 7 1 [[.c (.int .i64 kd), .c (.int .i64 vs), .c (.int .i64 va), .c (.int .i64 vn), .c (.int .i64 rs), .c (.int .i64 rk), .c (.int .i64 rv)]])) n4 (.r 47 3 1 [zL]) := ⟨_, rfl⟩
  have g4 : Gs n4 = some (.r 47 3 1 [zL]) := by rw [hGs]; exact upd_same _ _ _
  have gn4 : H n4 = none := hn.2.2
  have hle : Heap.le H Gs := by rw [hGs]; (repeat' (first | exact Heap.le_refl _ | refine hle_upd2 ?_ _ _ | (refine Heap.le_new ?_ ?_; rotate_left 1; focus (first | assumption | (simp only [upd_none2, upd_get, ne_eq, push_cast, seval, *]; done) | (simp [upd_get, *]; done)))))
  rw [← hGs]
  clear hGs h1 h2 hn
  refine does_call rfl rfl ?_
  simp only [push_cast, seval, *]
  refine ACall.mono (unhid hx Gs) ?_
  rintro _ H' ⟨y1, y2, y3, rfl, ho⟩
  have k4 := (OwnG_loc y1 y2 y3 R1).get ho g4
  obtain ⟨H2, l1, l2, l3⟩ := (OwnG_loc y1 y2 y3 R1).cutx ho (K := H) hle
  have l4 := l3 n4 (by rw [g4]; simp) gn4
  obtain ⟨⟨cs1, cs2, cs3⟩, os1, os2, os3⟩ := OwnG_cs l2
  have o4 := ne_old k4
  clear hx g4 gn4 hle l3 ho
  replace l1 := Lib.hid l1
  replace l2 := Lib.hid l2
  replace l4 := Lib.hid l4
  (try simp only [push_cast, seval, *])
  repeat' (first
    | refine AW_seq_kn fun K hK => ?_
    | refine AW_block ?_
    | ((first
      | refine AW_region E0 ?_ | refine AW_ret ?_ | refine AW_exit ?_ | refine AW_skip ?_ | unfold retQ); try simp only [push_cast, seval, *])
    | (apply AW_cond; (case hc => (simp only [push_cast, seval]; rfl)); all_goals (intro hc; first | (exfalso; simp only [push_cast, seval, *] at hc; done) | (exact absurd hc (by decide)) | ((try first | rw [Bool.not_true] at hc | rw [Bool.not_false] at hc); first | (with_reducible replace hc := tTT hc); clear hc | (with_reducible replace hc := tFF hc); clear hc | (have hp := hc; try simp only [decide_eq_true_eq, decide_eq_false_iff_not, bA, bB, bC, bD, bE, bF, bG, bH] at hp))))
    | (refine Kn.go hK ?_; clear hK K)
    | refine Kn.go (by assumption) ?_
    | (intro n hn; (try simp only [upd_none2, join_none_iff, ite_none, ne_eq] at hn); (try simp only [push_cast, seval, *]))
    | (intro hc)
    | fail)
  exact ⟨_, H2, Weak.less (by repeat' (first | exact unhid l1 | refine le_skip ?_ (unhid l4))), y1, y2, y3, rfl, unhid l2⟩
end Go.Proofs.Ytdeckjoeggmagaa
