/- What an op does: all but acks. -/
import Derived.Test.YtlbdpnlmdcajbaaX
import Derived.Test.YtlbdpnlmdcajbaaV
import Derived.Test.YtlbdpnlmdcajbaaZO
namespace Go.Proofs.Ytlbdpnlmdcajbaa
open Go.RowKit
open Nat renaming reduceEqDiff → nA, reduceLT → nB, reduceLeDiff → nC, reduceAdd → nD, reduceMul → nE, reduceSub → nF, reduceBEq → nG
open Int renaming reduceToNat → iA, reduceLT → iB, reduceLE → iC, reduceEq → iD
open Bool renaming and_eq_true → bA, or_eq_true → bB, or_eq_false_iff → bC, and_eq_false_iff → bD, not_eq_true' → bE, not_eq_false' → bF, not_true → bG, not_false → bH
set_option linter.all false
set_option maxHeartbeats 4000000
attribute [local irreducible] AW Does ACall tE tS tB tZ
set_option maxRecDepth 5000

structure Told where
  c : Cd
  number : Int
  all : Bool
  acks : List Ak
  gone : List Int
  e : Int
def Told.cl (t : Told) (y ya g : AV) : List AV := [.c (.int .u64 t.c.epoch), .c (.int .u64 t.c.counter), .c (.int .i64 t.c.tasks), .c (.int .i64 t.c.attempt), .c (.int .i64 t.c.span), y, .c (.int .u64 t.number), .c (.bool t.all), ya, g, .c (.int .i64 t.e)]
def kdS (o : Op22) : Int := (IntKind.u64.wrap o.kind).tmod 10
def runS (o : Op22) (c : Cd) : Told :=
  if kdS o < 2 then ⟨(trigR c o.now o.save).1, (trigR c o.now o.save).2.1, false, [], [], (trigR c o.now o.save).2.2⟩
  else if kdS o < 5 then ⟨(ackR c (numO o c) o.attempt (opAck o)).1, 0, (ackR c (numO o c) o.attempt (opAck o)).2.1, [], [], (ackR c (numO o c) o.attempt (opAck o)).2.2⟩
  else if kdS o < 6 then ⟨(decR c (numO o c) o.attempt).1, 0, false, [], [], (decR c (numO o c) o.attempt).2⟩
  else if kdS o < 7 then ⟨(tickR c o.now).1, 0, false, [], (tickR c o.now).2.1, (tickR c o.now).2.2⟩
  else if kdS o < 9 then ⟨(compR c (numO o c)).1, 0, false, (compR c (numO o c)).2.1, (compR c (numO o c)).2.2.1, (compR c (numO o c)).2.2.2⟩
  else ⟨(restR c o.tasks o.attempt).1, 0, false, [], (restR c o.tasks o.attempt).2.1, (restR c o.tasks o.attempt).2.2⟩
theorem kdS_bd (o : Op22) : 0 ≤ kdS o ∧ kdS o < 10 := by
  unfold kdS
  have h : 0 ≤ IntKind.u64.wrap o.kind := by
    simp only [IntKind.wrap, IntKind.bits, IntKind.signed]
    first
      | exact Int.emod_nonneg _ (by decide)
      | (simp; exact Int.emod_nonneg _ (by decide))
  rw [Int.tmod_eq_emod_of_nonneg h]
  exact ⟨Int.emod_nonneg _ (by decide), Int.emod_lt_of_pos _ (by decide)⟩
def ownT (t : Told) (y ya g : AV) (H' H : Heap) : Prop := ∃ H1 H2, OwnP y t.c.pend H' H1 ∧ OwnL H1 g 25 1 (t.gone.map iu) H2 ∧ OwnA ya t.acks H2 H
abbrev ztold : List AV := [.c (.int .u64 0), .c (.int .u64 0), .c (.int .i64 0), .c (.int .i64 0), .c (.int .i64 0), .c (.slice none 0 0), .c (.int .u64 0), .c (.bool false), .c (.slice none 0 0), .c (.slice none 0 0), .c (.int .i64 0)]
theorem runTrig_o (o : Op22) (c : Cd) (hl : c.pend.length ≤ maxLen) (hfit : c.fits) (hk : kdS o = 0 ∨ kdS o = 1) (H : Heap) :
    ACall Try.prog 18 [.g (Op22.av o), .g (Cd.av c)] H fun r H' => ∃ y, r = .g (Told.cl ⟨(trigR c o.now o.save).1, (trigR c o.now o.save).2.1, false, [], [], (trigR c o.now o.save).2.2⟩ y (.c (.slice none 0 0)) (.c (.slice none 0 0))) ∧ OwnP y (trigR c o.now o.save).1.pend H' H := by
  have hnu := number_p o c hl
  have hx := Trigger_o c hl hfit o.now o.save
  generalize trigR c o.now o.save = R at *
  obtain ⟨R1, R2, R3⟩ := R
  generalize numO o c = N at *
  unfold kdS at hk
  obtain ⟨kd, at_, now, sv, ts, an, ⟨ta, bs⟩⟩ := o
  obtain ⟨c0, c1, c2, c3, c4, l⟩ := c
  simp only [Op22.av, Cd.av, Cd.cl, Told.cl] at hnu hx ⊢
  simp only at hk
  generalize hU : IntKind.u64.wrap kd = U at hk
  clear hl hfit
  replace hx := Lib.hid hx
  rcases hk with hk | hk
  all_goals
    refine ACall_of' Try.func18 rfl (Ent_of Try.func18 (by kernel_rfl) rfl) (by simp [Try.ntmps18]) ?_; simp only [Try.ntmps18, Try.results18]
    repeat' (first
    | refine AW_seq_kn fun K hK => ?_
    | refine AW_block ?_
    | (refine does_call rfl rfl ?_; simp only [push_cast, seval, *]; refine ACall.monoP (hnu _) ?_; (try simp only [push_cast, seval, *]))
    | ((first
      | refine AW_region E0 ?_ | refine AW_ret ?_ | refine AW_exit ?_ | refine AW_skip ?_ | unfold retQ); try simp only [push_cast, seval, *])
    | (apply AW_cond; (case hc => (simp only [push_cast, seval]; rfl)); all_goals (intro hc; first | (exfalso; simp only [push_cast, seval, *] at hc; done) | (exact absurd hc (by decide)) | ((try first | rw [Bool.not_true] at hc | rw [Bool.not_false] at hc); first | (with_reducible replace hc := tTT hc); clear hc | (with_reducible replace hc := tFF hc); clear hc | (have hp := hc; try simp only [decide_eq_true_eq, decide_eq_false_iff_not, bA, bB, bC, bD, bE, bF, bG, bH] at hp))))
    | (refine Kn.go hK ?_; clear hK K)
    | refine Kn.go (by assumption) ?_
    | (intro n hn; (try simp only [upd_none2, join_none_iff, ite_none, ne_eq] at hn); (try simp only [push_cast, seval, *]))
    | (intro hc)
    | fail)
    rename_i n1 h1 n2 h2
    generalize n = n4 at *
    obtain ⟨Gs, hGs⟩ : ∃ Gs : Heap, Gs = upd (upd (upd H n1 (.r 49 8 1 [[.c (.int .i64 kd), .c (.int .i64 at_), .c (.int .i64 now), .c (.bool sv), .c (.int .i64 ts), .c (.int .i64 an), .c (.int .i64 ta), .l 1 (bs.map by1)]])) n2 (.r 30 6 1 [[.c (.int .u64 c0), .c (.int .u64 c1), .c (.int .i64 c2), .c (.int .i64 c3), .c (.int .i64 c4), .l 4 (l.map Pd.av)]])) n4 (.r 52 11 1 [ztold]) := ⟨_, rfl⟩
    have g4 : Gs n4 = some (.r 52 11 1 [ztold]) := by rw [hGs]; exact upd_same _ _ _
    have gn4 : H n4 = none := hn.2.2
    have hle : Heap.le H Gs := by rw [hGs]; (repeat' (first | exact Heap.le_refl _ | refine hle_upd2 ?_ _ _ | (refine Heap.le_new ?_ ?_; rotate_left 1; focus (first | assumption | (simp only [upd_none2, upd_get, ne_eq, push_cast, seval, *]; done) | (simp [upd_get, *]; done)))))
    rw [← hGs]
    clear hGs h1 h2 hn
    replace hle := Lib.hid hle
    refine does_call rfl rfl ?_
    simp only [push_cast, seval, *]
    refine ACall.mono (unhid hx Gs) ?_
    rintro _ H' ⟨y, rfl, ho⟩
    have k4 := (OwnP_loc y R1.pend).get ho g4
    obtain ⟨H2, l1, l2, l3⟩ := (OwnP_loc y R1.pend).cutx ho (K := H) (unhid hle)
    have l4 := l3 n4 (by rw [g4]; simp) gn4
    have hycs := l2.cs
    have hyone := l2.one
    clear ho l3
    replace l1 := Lib.hid l1
    replace l2 := Lib.hid l2
    replace l4 := Lib.hid l4
    simp only [ztold] at k4
    have o4 := ne_old k4
    clear hx hnu hU g4 gn4 hle
    (try simp only [push_cast, seval, *])
    repeat' (first
    | refine AW_seq_kn fun K hK => ?_
    | refine AW_block ?_
    | ((first
      | refine AW_region E0 ?_ | refine AW_ret ?_ | refine AW_exit ?_ | refine AW_skip ?_ | unfold retQ); try simp only [push_cast, seval, *])
    | (apply AW_cond; (case hc => (simp only [push_cast, seval]; rfl)); all_goals (intro hc; first | (exfalso; simp only [push_cast, seval, *] at hc; done) | (exact absurd hc (by decide)) | ((try first | rw [Bool.not_true] at hc | rw [Bool.not_false] at hc); first | (with_reducible replace hc := tTT hc); clear hc | (with_reducible replace hc := tFF hc); clear hc | (have hp := hc; try simp only [decide_eq_true_eq, decide_eq_false_iff_not, bA, bB, bC, bD, bE, bF, bG, bH] at hp))))
    | (refine Kn.go hK ?_; clear hK K)
    | refine Kn.go (by assumption) ?_
    | (intro n hn; (try simp only [upd_none2, join_none_iff, ite_none, ne_eq] at hn); (try simp only [push_cast, seval, *]))
    | (intro hc)
    | fail)
    exact ⟨_, H2, Weak.less (by repeat' (first | exact unhid l1 | refine le_skip ?_ (unhid l4))), y, rfl, unhid l2⟩
theorem runDec_o (o : Op22) (c : Cd) (hl : c.pend.length ≤ maxLen) (hfit : c.fits) (hk : kdS o = 5) (H : Heap) :
    ACall Try.prog 18 [.g (Op22.av o), .g (Cd.av c)] H fun r H' => ∃ y, r = .g (Told.cl ⟨(decR c (numO o c) o.attempt).1, 0, false, [], [], (decR c (numO o c) o.attempt).2⟩ y (.c (.slice none 0 0)) (.c (.slice none 0 0))) ∧ OwnP y (decR c (numO o c) o.attempt).1.pend H' H := by
  have hnu := number_p o c hl
  have hx := Decline_o c hl hfit (numO o c) o.attempt
  generalize decR c (numO o c) o.attempt = R at *
  obtain ⟨R1, R3⟩ := R
  generalize numO o c = N at *
  unfold kdS at hk
  obtain ⟨kd, at_, now, sv, ts, an, ⟨ta, bs⟩⟩ := o
  obtain ⟨c0, c1, c2, c3, c4, l⟩ := c
  simp only [Op22.av, Cd.av, Cd.cl, Told.cl] at hnu hx ⊢
  simp only at hk
  generalize hU : IntKind.u64.wrap kd = U at hk
  clear hl hfit
  replace hx := Lib.hid hx
  · refine ACall_of' Try.func18 rfl (Ent_of Try.func18 (by kernel_rfl) rfl) (by simp [Try.ntmps18]) ?_; simp only [Try.ntmps18, Try.results18]
    repeat' (first
    | refine AW_seq_kn fun K hK => ?_
    | refine AW_block ?_
    | (refine does_call rfl rfl ?_; simp only [push_cast, seval, *]; refine ACall.monoP (hnu _) ?_; (try simp only [push_cast, seval, *]))
    | ((first
      | refine AW_region E0 ?_ | refine AW_ret ?_ | refine AW_exit ?_ | refine AW_skip ?_ | unfold retQ); try simp only [push_cast, seval, *])
    | (apply AW_cond; (case hc => (simp only [push_cast, seval]; rfl)); all_goals (intro hc; first | (exfalso; simp only [push_cast, seval, *] at hc; done) | (exact absurd hc (by decide)) | ((try first | rw [Bool.not_true] at hc | rw [Bool.not_false] at hc); first | (with_reducible replace hc := tTT hc); clear hc | (with_reducible replace hc := tFF hc); clear hc | (have hp := hc; try simp only [decide_eq_true_eq, decide_eq_false_iff_not, bA, bB, bC, bD, bE, bF, bG, bH] at hp))))
    | (refine Kn.go hK ?_; clear hK K)
    | refine Kn.go (by assumption) ?_
    | (intro n hn; (try simp only [upd_none2, join_none_iff, ite_none, ne_eq] at hn); (try simp only [push_cast, seval, *]))
    | (intro hc)
    | fail)
    rename_i n1 h1 n2 h2
    generalize n = n4 at *
    obtain ⟨Gs, hGs⟩ : ∃ Gs : Heap, Gs = upd (upd (upd H n1 (.r 49 8 1 [[.c (.int .i64 kd), .c (.int .i64 at_), .c (.int .i64 now), .c (.bool sv), .c (.int .i64 ts), .c (.int .i64 an), .c (.int .i64 ta), .l 1 (bs.map by1)]])) n2 (.r 30 6 1 [[.c (.int .u64 c0), .c (.int .u64 c1), .c (.int .i64 c2), .c (.int .i64 c3), .c (.int .i64 c4), .l 4 (l.map Pd.av)]])) n4 (.r 52 11 1 [ztold]) := ⟨_, rfl⟩
    have g4 : Gs n4 = some (.r 52 11 1 [ztold]) := by rw [hGs]; exact upd_same _ _ _
    have gn4 : H n4 = none := hn.2.2
    have hle : Heap.le H Gs := by rw [hGs]; (repeat' (first | exact Heap.le_refl _ | refine hle_upd2 ?_ _ _ | (refine Heap.le_new ?_ ?_; rotate_left 1; focus (first | assumption | (simp only [upd_none2, upd_get, ne_eq, push_cast, seval, *]; done) | (simp [upd_get, *]; done)))))
    rw [← hGs]
    clear hGs h1 h2 hn
    replace hle := Lib.hid hle
    refine does_call rfl rfl ?_
    simp only [push_cast, seval, *]
    refine ACall.mono (unhid hx Gs) ?_
    rintro _ H' ⟨y, rfl, ho⟩
    have k4 := (OwnP_loc y R1.pend).get ho g4
    obtain ⟨H2, l1, l2, l3⟩ := (OwnP_loc y R1.pend).cutx ho (K := H) (unhid hle)
    have l4 := l3 n4 (by rw [g4]; simp) gn4
    have hycs := l2.cs
    have hyone := l2.one
    clear ho l3
    replace l1 := Lib.hid l1
    replace l2 := Lib.hid l2
    replace l4 := Lib.hid l4
    simp only [ztold] at k4
    have o4 := ne_old k4
    clear hx hnu hU g4 gn4 hle
    (try simp only [push_cast, seval, *])
    repeat' (first
    | refine AW_seq_kn fun K hK => ?_
    | refine AW_block ?_
    | ((first
      | refine AW_region E0 ?_ | refine AW_ret ?_ | refine AW_exit ?_ | refine AW_skip ?_ | unfold retQ); try simp only [push_cast, seval, *])
    | (apply AW_cond; (case hc => (simp only [push_cast, seval]; rfl)); all_goals (intro hc; first | (exfalso; simp only [push_cast, seval, *] at hc; done) | (exact absurd hc (by decide)) | ((try first | rw [Bool.not_true] at hc | rw [Bool.not_false] at hc); first | (with_reducible replace hc := tTT hc); clear hc | (with_reducible replace hc := tFF hc); clear hc | (have hp := hc; try simp only [decide_eq_true_eq, decide_eq_false_iff_not, bA, bB, bC, bD, bE, bF, bG, bH] at hp))))
    | (refine Kn.go hK ?_; clear hK K)
    | refine Kn.go (by assumption) ?_
    | (intro n hn; (try simp only [upd_none2, join_none_iff, ite_none, ne_eq] at hn); (try simp only [push_cast, seval, *]))
    | (intro hc)
    | fail)
    exact ⟨_, H2, Weak.less (by repeat' (first | exact unhid l1 | refine le_skip ?_ (unhid l4))), y, rfl, unhid l2⟩
theorem runTick_o (o : Op22) (c : Cd) (hl : c.pend.length ≤ maxLen) (hfit : c.fits) (hk : kdS o = 6) (H : Heap) :
    ACall Try.prog 18 [.g (Op22.av o), .g (Cd.av c)] H fun r H' => ∃ y g H1, r = .g (Told.cl ⟨(tickR c o.now).1, 0, false, [], (tickR c o.now).2.1, (tickR c o.now).2.2⟩ y (.c (.slice none 0 0)) g) ∧ OwnP y (tickR c o.now).1.pend H' H1 ∧ OwnL H1 g 25 1 ((tickR c o.now).2.1.map iu) H := by
  have hnu := number_p o c hl
  have hx := Tick_o c hl hfit o.now
  generalize tickR c o.now = R at *
  obtain ⟨R1, R2, R3⟩ := R
  generalize numO o c = N at *
  unfold kdS at hk
  obtain ⟨kd, at_, now, sv, ts, an, ⟨ta, bs⟩⟩ := o
  obtain ⟨c0, c1, c2, c3, c4, l⟩ := c
  simp only [Op22.av, Cd.av, Cd.cl, Told.cl] at hnu hx ⊢
  simp only at hk
  generalize hU : IntKind.u64.wrap kd = U at hk
  clear hl hfit
  replace hx := Lib.hid hx
  · refine ACall_of' Try.func18 rfl (Ent_of Try.func18 (by kernel_rfl) rfl) (by simp [Try.ntmps18]) ?_; simp only [Try.ntmps18, Try.results18]
    repeat' (first
    | refine AW_seq_kn fun K hK => ?_
    | refine AW_block ?_
    | (refine does_call rfl rfl ?_; simp only [push_cast, seval, *]; refine ACall.monoP (hnu _) ?_; (try simp only [push_cast, seval, *]))
    | ((first
      | refine AW_region E0 ?_ | refine AW_ret ?_ | refine AW_exit ?_ | refine AW_skip ?_ | unfold retQ); try simp only [push_cast, seval, *])
    | (apply AW_cond; (case hc => (simp only [push_cast, seval]; rfl)); all_goals (intro hc; first | (exfalso; simp only [push_cast, seval, *] at hc; done) | (exact absurd hc (by decide)) | ((try first | rw [Bool.not_true] at hc | rw [Bool.not_false] at hc); first | (with_reducible replace hc := tTT hc); clear hc | (with_reducible replace hc := tFF hc); clear hc | (have hp := hc; try simp only [decide_eq_true_eq, decide_eq_false_iff_not, bA, bB, bC, bD, bE, bF, bG, bH] at hp))))
    | (refine Kn.go hK ?_; clear hK K)
    | refine Kn.go (by assumption) ?_
    | (intro n hn; (try simp only [upd_none2, join_none_iff, ite_none, ne_eq] at hn); (try simp only [push_cast, seval, *]))
    | (intro hc)
    | fail)
    rename_i n1 h1 n2 h2
    generalize n = n4 at *
    obtain ⟨Gs, hGs⟩ : ∃ Gs : Heap, Gs = upd (upd (upd H n1 (.r 49 8 1 [[.c (.int .i64 kd), .c (.int .i64 at_), .c (.int .i64 now), .c (.bool sv), .c (.int .i64 ts), .c (.int .i64 an), .c (.int .i64 ta), .l 1 (bs.map by1)]])) n2 (.r 30 6 1 [[.c (.int .u64 c0), .c (.int .u64 c1), .c (.int .i64 c2), .c (.int .i64 c3), .c (.int .i64 c4), .l 4 (l.map Pd.av)]])) n4 (.r 52 11 1 [ztold]) := ⟨_, rfl⟩
    have g4 : Gs n4 = some (.r 52 11 1 [ztold]) := by rw [hGs]; exact upd_same _ _ _
    have gn4 : H n4 = none := hn.2.2
    have hle : Heap.le H Gs := by rw [hGs]; (repeat' (first | exact Heap.le_refl _ | refine hle_upd2 ?_ _ _ | (refine Heap.le_new ?_ ?_; rotate_left 1; focus (first | assumption | (simp only [upd_none2, upd_get, ne_eq, push_cast, seval, *]; done) | (simp [upd_get, *]; done)))))
    rw [← hGs]
    clear hGs h1 h2 hn
    replace hle := Lib.hid hle
    refine does_call rfl rfl ?_
    simp only [push_cast, seval, *]
    refine ACall.mono (unhid hx Gs) ?_
    rintro _ H' ⟨y, g, G1, rfl, ho, hg⟩
    have k4 := (OwnP_loc y R1.pend).get ho (hg.get g4)
    obtain ⟨H3, a1, a2, a3⟩ := (Loc.own g 25 1 (R2.map iu)).cutd hg (unhid hle) (p := fun m => m = n4) (fun m hm => by subst hm; exact ⟨by rw [g4]; simp, gn4⟩)
    obtain ⟨H2, l1, l2, l3⟩ := (OwnP_loc y R1.pend).cutd ho a1 a3
    have l4 := (l3 n4 rfl).2
    have hycs := l2.cs
    have hyone := l2.one
    have hgcs := a2.cs
    have hgone := a2.one
    clear ho hg l3 a1 a3
    replace l1 := Lib.hid l1
    replace l2 := Lib.hid l2
    replace l4 := Lib.hid l4
    replace a2 := Lib.hid a2
    simp only [ztold] at k4
    have o4 := ne_old k4
    clear hx hnu hU g4 gn4 hle
    (try simp only [push_cast, seval, *])
    repeat' (first
    | refine AW_seq_kn fun K hK => ?_
    | refine AW_block ?_
    | ((first
      | refine AW_region E0 ?_ | refine AW_ret ?_ | refine AW_exit ?_ | refine AW_skip ?_ | unfold retQ); try simp only [push_cast, seval, *])
    | (apply AW_cond; (case hc => (simp only [push_cast, seval]; rfl)); all_goals (intro hc; first | (exfalso; simp only [push_cast, seval, *] at hc; done) | (exact absurd hc (by decide)) | ((try first | rw [Bool.not_true] at hc | rw [Bool.not_false] at hc); first | (with_reducible replace hc := tTT hc); clear hc | (with_reducible replace hc := tFF hc); clear hc | (have hp := hc; try simp only [decide_eq_true_eq, decide_eq_false_iff_not, bA, bB, bC, bD, bE, bF, bG, bH] at hp))))
    | (refine Kn.go hK ?_; clear hK K)
    | refine Kn.go (by assumption) ?_
    | (intro n hn; (try simp only [upd_none2, join_none_iff, ite_none, ne_eq] at hn); (try simp only [push_cast, seval, *]))
    | (intro hc)
    | fail)
    exact ⟨_, H2, Weak.less (by repeat' (first | exact unhid l1 | refine le_skip ?_ (unhid l4))), y, g, H3, rfl, unhid l2, unhid a2⟩
theorem runRest_o (o : Op22) (c : Cd) (hl : c.pend.length ≤ maxLen) (hfit : c.fits) (hk : kdS o = 9) (H : Heap) :
    ACall Try.prog 18 [.g (Op22.av o), .g (Cd.av c)] H fun r H' => ∃ y g H1, r = .g (Told.cl ⟨(restR c o.tasks o.attempt).1, 0, false, [], (restR c o.tasks o.attempt).2.1, (restR c o.tasks o.attempt).2.2⟩ y (.c (.slice none 0 0)) g) ∧ OwnP y (restR c o.tasks o.attempt).1.pend H' H1 ∧ OwnL H1 g 25 1 ((restR c o.tasks o.attempt).2.1.map iu) H := by
  have hnu := number_p o c hl
  have hx := Restart_o c hl hfit o.tasks o.attempt
  generalize restR c o.tasks o.attempt = R at *
  obtain ⟨R1, R2, R3⟩ := R
  generalize numO o c = N at *
  unfold kdS at hk
  obtain ⟨kd, at_, now, sv, ts, an, ⟨ta, bs⟩⟩ := o
  obtain ⟨c0, c1, c2, c3, c4, l⟩ := c
  simp only [Op22.av, Cd.av, Cd.cl, Told.cl] at hnu hx ⊢
  simp only at hk
  generalize hU : IntKind.u64.wrap kd = U at hk
  clear hl hfit
  replace hx := Lib.hid hx
  · refine ACall_of' Try.func18 rfl (Ent_of Try.func18 (by kernel_rfl) rfl) (by simp [Try.ntmps18]) ?_; simp only [Try.ntmps18, Try.results18]
    repeat' (first
    | refine AW_seq_kn fun K hK => ?_
    | refine AW_block ?_
    | (refine does_call rfl rfl ?_; simp only [push_cast, seval, *]; refine ACall.monoP (hnu _) ?_; (try simp only [push_cast, seval, *]))
    | ((first
      | refine AW_region E0 ?_ | refine AW_ret ?_ | refine AW_exit ?_ | refine AW_skip ?_ | unfold retQ); try simp only [push_cast, seval, *])
    | (apply AW_cond; (case hc => (simp only [push_cast, seval]; rfl)); all_goals (intro hc; first | (exfalso; simp only [push_cast, seval, *] at hc; done) | (exact absurd hc (by decide)) | ((try first | rw [Bool.not_true] at hc | rw [Bool.not_false] at hc); first | (with_reducible replace hc := tTT hc); clear hc | (with_reducible replace hc := tFF hc); clear hc | (have hp := hc; try simp only [decide_eq_true_eq, decide_eq_false_iff_not, bA, bB, bC, bD, bE, bF, bG, bH] at hp))))
    | (refine Kn.go hK ?_; clear hK K)
    | refine Kn.go (by assumption) ?_
    | (intro n hn; (try simp only [upd_none2, join_none_iff, ite_none, ne_eq] at hn); (try simp only [push_cast, seval, *]))
    | (intro hc)
    | fail)
    rename_i n1 h1 n2 h2
    generalize n = n4 at *
    obtain ⟨Gs, hGs⟩ : ∃ Gs : Heap, Gs = upd (upd (upd H n1 (.r 49 8 1 [[.c (.int .i64 kd), .c (.int .i64 at_), .c (.int .i64 now), .c (.bool sv), .c (.int .i64 ts), .c (.int .i64 an), .c (.int .i64 ta), .l 1 (bs.map by1)]])) n2 (.r 30 6 1 [[.c (.int .u64 c0), .c (.int .u64 c1), .c (.int .i64 c2), .c (.int .i64 c3), .c (.int .i64 c4), .l 4 (l.map Pd.av)]])) n4 (.r 52 11 1 [ztold]) := ⟨_, rfl⟩
    have g4 : Gs n4 = some (.r 52 11 1 [ztold]) := by rw [hGs]; exact upd_same _ _ _
    have gn4 : H n4 = none := hn.2.2
    have hle : Heap.le H Gs := by rw [hGs]; (repeat' (first | exact Heap.le_refl _ | refine hle_upd2 ?_ _ _ | (refine Heap.le_new ?_ ?_; rotate_left 1; focus (first | assumption | (simp only [upd_none2, upd_get, ne_eq, push_cast, seval, *]; done) | (simp [upd_get, *]; done)))))
    rw [← hGs]
    clear hGs h1 h2 hn
    replace hle := Lib.hid hle
    refine does_call rfl rfl ?_
    simp only [push_cast, seval, *]
    refine ACall.mono (unhid hx Gs) ?_
    rintro _ H' ⟨y, g, G1, rfl, ho, hg⟩
    have k4 := (OwnP_loc y R1.pend).get ho (hg.get g4)
    obtain ⟨H3, a1, a2, a3⟩ := (Loc.own g 25 1 (R2.map iu)).cutd hg (unhid hle) (p := fun m => m = n4) (fun m hm => by subst hm; exact ⟨by rw [g4]; simp, gn4⟩)
    obtain ⟨H2, l1, l2, l3⟩ := (OwnP_loc y R1.pend).cutd ho a1 a3
    have l4 := (l3 n4 rfl).2
    have hycs := l2.cs
    have hyone := l2.one
    have hgcs := a2.cs
    have hgone := a2.one
    clear ho hg l3 a1 a3
    replace l1 := Lib.hid l1
    replace l2 := Lib.hid l2
    replace l4 := Lib.hid l4
    replace a2 := Lib.hid a2
    simp only [ztold] at k4
    have o4 := ne_old k4
    clear hx hnu hU g4 gn4 hle
    (try simp only [push_cast, seval, *])
    repeat' (first
    | refine AW_seq_kn fun K hK => ?_
    | refine AW_block ?_
    | ((first
      | refine AW_region E0 ?_ | refine AW_ret ?_ | refine AW_exit ?_ | refine AW_skip ?_ | unfold retQ); try simp only [push_cast, seval, *])
    | (apply AW_cond; (case hc => (simp only [push_cast, seval]; rfl)); all_goals (intro hc; first | (exfalso; simp only [push_cast, seval, *] at hc; done) | (exact absurd hc (by decide)) | ((try first | rw [Bool.not_true] at hc | rw [Bool.not_false] at hc); first | (with_reducible replace hc := tTT hc); clear hc | (with_reducible replace hc := tFF hc); clear hc | (have hp := hc; try simp only [decide_eq_true_eq, decide_eq_false_iff_not, bA, bB, bC, bD, bE, bF, bG, bH] at hp))))
    | (refine Kn.go hK ?_; clear hK K)
    | refine Kn.go (by assumption) ?_
    | (intro n hn; (try simp only [upd_none2, join_none_iff, ite_none, ne_eq] at hn); (try simp only [push_cast, seval, *]))
    | (intro hc)
    | fail)
    exact ⟨_, H2, Weak.less (by repeat' (first | exact unhid l1 | refine le_skip ?_ (unhid l4))), y, g, H3, rfl, unhid l2, unhid a2⟩
theorem runComp_o (o : Op22) (c : Cd) (hl : c.pend.length ≤ maxLen) (hfit : c.fits) (hk : kdS o = 7 ∨ kdS o = 8) (H : Heap) :
    ACall Try.prog 18 [.g (Op22.av o), .g (Cd.av c)] H fun r H' => ∃ y ya g H1 H2, r = .g (Told.cl ⟨(compR c (numO o c)).1, 0, false, (compR c (numO o c)).2.1, (compR c (numO o c)).2.2.1, (compR c (numO o c)).2.2.2⟩ y ya g) ∧ OwnP y (compR c (numO o c)).1.pend H' H1 ∧ OwnL H1 g 25 1 ((compR c (numO o c)).2.2.1.map iu) H2 ∧ OwnA ya (compR c (numO o c)).2.1 H2 H := by
  have hnu := number_p o c hl
  have hx := Complete_o c hl hfit (numO o c)
  generalize compR c (numO o c) = R at *
  obtain ⟨R1, R2, R3, R4⟩ := R
  generalize numO o c = N at *
  unfold kdS at hk
  obtain ⟨kd, at_, now, sv, ts, an, ⟨ta, bs⟩⟩ := o
  obtain ⟨c0, c1, c2, c3, c4, l⟩ := c
  simp only [Op22.av, Cd.av, Cd.cl, Told.cl] at hnu hx ⊢
  simp only at hk
  generalize hU : IntKind.u64.wrap kd = U at hk
  clear hl hfit
  replace hx := Lib.hid hx
  rcases hk with hk | hk
  all_goals
    refine ACall_of' Try.func18 rfl (Ent_of Try.func18 (by kernel_rfl) rfl) (by simp [Try.ntmps18]) ?_; simp only [Try.ntmps18, Try.results18]
    repeat' (first
    | refine AW_seq_kn fun K hK => ?_
    | refine AW_block ?_
    | (refine does_call rfl rfl ?_; simp only [push_cast, seval, *]; refine ACall.monoP (hnu _) ?_; (try simp only [push_cast, seval, *]))
    | ((first
      | refine AW_region E0 ?_ | refine AW_ret ?_ | refine AW_exit ?_ | refine AW_skip ?_ | unfold retQ); try simp only [push_cast, seval, *])
    | (apply AW_cond; (case hc => (simp only [push_cast, seval]; rfl)); all_goals (intro hc; first | (exfalso; simp only [push_cast, seval, *] at hc; done) | (exact absurd hc (by decide)) | ((try first | rw [Bool.not_true] at hc | rw [Bool.not_false] at hc); first | (with_reducible replace hc := tTT hc); clear hc | (with_reducible replace hc := tFF hc); clear hc | (have hp := hc; try simp only [decide_eq_true_eq, decide_eq_false_iff_not, bA, bB, bC, bD, bE, bF, bG, bH] at hp))))
    | (refine Kn.go hK ?_; clear hK K)
    | refine Kn.go (by assumption) ?_
    | (intro n hn; (try simp only [upd_none2, join_none_iff, ite_none, ne_eq] at hn); (try simp only [push_cast, seval, *]))
    | (intro hc)
    | fail)
    rename_i n1 h1 n2 h2
    generalize n = n4 at *
    obtain ⟨Gs, hGs⟩ : ∃ Gs : Heap, Gs = upd (upd (upd H n1 (.r 49 8 1 [[.c (.int .i64 kd), .c (.int .i64 at_), .c (.int .i64 now), .c (.bool sv), .c (.int .i64 ts), .c (.int .i64 an), .c (.int .i64 ta), .l 1 (bs.map by1)]])) n2 (.r 30 6 1 [[.c (.int .u64 c0), .c (.int .u64 c1), .c (.int .i64 c2), .c (.int .i64 c3), .c (.int .i64 c4), .l 4 (l.map Pd.av)]])) n4 (.r 52 11 1 [ztold]) := ⟨_, rfl⟩
    have g4 : Gs n4 = some (.r 52 11 1 [ztold]) := by rw [hGs]; exact upd_same _ _ _
    have gn4 : H n4 = none := hn.2.2
    have hle : Heap.le H Gs := by rw [hGs]; (repeat' (first | exact Heap.le_refl _ | refine hle_upd2 ?_ _ _ | (refine Heap.le_new ?_ ?_; rotate_left 1; focus (first | assumption | (simp only [upd_none2, upd_get, ne_eq, push_cast, seval, *]; done) | (simp [upd_get, *]; done)))))
    rw [← hGs]
    clear hGs h1 h2 hn
    replace hle := Lib.hid hle
    refine does_call rfl rfl ?_
    simp only [push_cast, seval, *]
    refine ACall.mono (unhid hx Gs) ?_
    rintro _ H' ⟨y, ya, g, G1, G2, rfl, ho, hg, ha⟩
    have k4 := (OwnP_loc y R1.pend).get ho (hg.get ((OwnA_loc ya R2).get ha g4))
    obtain ⟨H4, b1, b2, b3⟩ := (OwnA_loc ya R2).cutd ha (unhid hle) (p := fun m => m = n4) (fun m hm => by subst hm; exact ⟨by rw [g4]; simp, gn4⟩)
    obtain ⟨H3, a1, a2, a3⟩ := (Loc.own g 25 1 (R3.map iu)).cutd hg b1 b3
    obtain ⟨H2, l1, l2, l3⟩ := (OwnP_loc y R1.pend).cutd ho a1 a3
    have l4 := (l3 n4 rfl).2
    have hycs := l2.cs
    have hyone := l2.one
    have hgcs := a2.cs
    have hgone := a2.one
    have hacs := b2.cs
    have haone := b2.one
    clear ho hg ha l3 a1 a3 b1 b3
    replace l1 := Lib.hid l1
    replace l2 := Lib.hid l2
    replace l4 := Lib.hid l4
    replace a2 := Lib.hid a2
    replace b2 := Lib.hid b2
    simp only [ztold] at k4
    have o4 := ne_old k4
    clear hx hnu hU g4 gn4 hle
    (try simp only [push_cast, seval, *])
    repeat' (first
    | refine AW_seq_kn fun K hK => ?_
    | refine AW_block ?_
    | ((first
      | refine AW_region E0 ?_ | refine AW_ret ?_ | refine AW_exit ?_ | refine AW_skip ?_ | unfold retQ); try simp only [push_cast, seval, *])
    | (apply AW_cond; (case hc => (simp only [push_cast, seval]; rfl)); all_goals (intro hc; first | (exfalso; simp only [push_cast, seval, *] at hc; done) | (exact absurd hc (by decide)) | ((try first | rw [Bool.not_true] at hc | rw [Bool.not_false] at hc); first | (with_reducible replace hc := tTT hc); clear hc | (with_reducible replace hc := tFF hc); clear hc | (have hp := hc; try simp only [decide_eq_true_eq, decide_eq_false_iff_not, bA, bB, bC, bD, bE, bF, bG, bH] at hp))))
    | (refine Kn.go hK ?_; clear hK K)
    | refine Kn.go (by assumption) ?_
    | (intro n hn; (try simp only [upd_none2, join_none_iff, ite_none, ne_eq] at hn); (try simp only [push_cast, seval, *]))
    | (intro hc)
    | fail)
    exact ⟨_, H2, Weak.less (by repeat' (first | exact unhid l1 | refine le_skip ?_ (unhid l4))), y, ya, g, H3, H4, rfl, unhid l2, unhid a2, unhid b2⟩
end Go.Proofs.Ytlbdpnlmdcajbaa
