/- Walks: what the document says of an op. -/
import Derived.Test.YtlbdpnlmdcajbaaDD
import Derived.Test.YtlbdpnlmdcajbaaDF
import Derived.Test.YtlbdpnlmdcajbaaDG
import Derived.Test.YtlbdpnlmdcajbaaDH
import Derived.Test.YtlbdpnlmdcajbaaZE
import Derived.Test.YtlbdpnlmdcajbaaZO
import Derived.Test.YtlbdpnlmdcajbaaZQ
namespace Go.Proofs.Ytlbdpnlmdcajbaa
open Go.RowKit
open Nat renaming reduceEqDiff → nA, reduceLT → nB, reduceLeDiff → nC, reduceAdd → nD, reduceMul → nE, reduceSub → nF, reduceBEq → nG
open Int renaming reduceToNat → iA, reduceLT → iB, reduceLE → iC, reduceEq → iD
open Bool renaming and_eq_true → bA, or_eq_true → bB, or_eq_false_iff → bC, and_eq_false_iff → bD, not_eq_true' → bE, not_eq_false' → bF, not_true → bG, not_false → bH
set_option linter.all false
set_option maxHeartbeats 4000000
attribute [local irreducible] AW Does ACall tE tS tB tZ
def dLDJ0 : List En := [(0, true, []), (1, false, []), (2, false, []), (3, true, []), (4, false, []), (5, false, [0, 3]), (6, false, []), (7, false, []), (8, false, []), (9, false, []), (10, false, []), (11, false, []), (12, false, []), (13, false, []), (14, false, []), (15, false, []), (16, false, [])]
def dADJ0 : List (List Nat) := [[], [], [], [2], [], [4], [0, 1, 2, 3, 4, 5], [0, 1, 2, 3, 4, 5, 6], [0, 1, 2, 3, 4, 5, 6, 7], [0, 1, 2, 3, 4, 5, 6, 7], [0, 1, 2, 3, 4, 5, 6, 7], [0, 1, 2, 3, 4, 5, 6, 7, 8], [0, 1, 2, 3, 4, 5, 6, 7, 8, 11], [0, 1, 2, 3, 4, 5, 6, 7, 8, 9, 11, 12], [0, 1, 2, 3, 4, 5, 6, 7, 8, 9, 11, 12, 13], [0, 1, 2, 3, 4, 5, 6, 7, 8, 9, 10, 11, 12, 13, 14], [0, 1, 2, 3, 4, 5, 6, 7, 8, 9, 10, 11, 12, 13, 14, 15]]
attribute [push_cast] dLDJ0
set_option maxRecDepth 5000

theorem opAck_pp (o : Op22) (hl : o.ack.bytes.length ≤ maxLen) : Pure Try.prog 29 [.g (Op22.av o)] (.g (Ak.av (opAck o))) := fun H =>
  ACall.weak ((opAck_o o hl H).mono fun r H' ⟨z, e, ho⟩ => ⟨_, H, by rw [e]; exact (OwnL.wp ho).weak fun F F' hF hi => Imp.g (Imps.cons (Imp.refl hF _) id (Imps.cons hi.1 (fun _ => rfl) Imps.nil)), rfl, rfl⟩)
def Told.av (t : Told) : List AV := t.cl (.l 4 (t.c.pend.map Pd.av)) (.l 2 (t.acks.map Ak.av)) (.l 1 (t.gone.map iu))
theorem told_nil {c : Cd} {n : Int} {b : Bool} {e : Int} (H : Heap) : Weak (.g [.c (.int .u64 c.epoch), .c (.int .u64 c.counter), .c (.int .i64 c.tasks), .c (.int .i64 c.attempt), .c (.int .i64 c.span), .l 4 (c.pend.map Pd.av), .c (.int .u64 n), .c (.bool b), .c (.slice none 0 0), .c (.slice none 0 0), .c (.int .i64 e)]) H (.g (Told.av ⟨c, n, b, [], [], e⟩)) H :=
  Weak.imp (fun F => Imp.g (Imps.cons (Imp.refl (Mem.le.refl F) _) id (Imps.cons (Imp.refl (Mem.le.refl F) _) id (Imps.cons (Imp.refl (Mem.le.refl F) _) id (Imps.cons (Imp.refl (Mem.le.refl F) _) id (Imps.cons (Imp.refl (Mem.le.refl F) _) id (Imps.cons (Imp.refl (Mem.le.refl F) _) id (Imps.cons (Imp.refl (Mem.le.refl F) _) id (Imps.cons (Imp.refl (Mem.le.refl F) _) id (Imps.cons (Imp.nil_l 2) (fun _ => rfl) (Imps.cons (Imp.nil_l 1) (fun _ => rfl) (Imps.cons (Imp.refl (Mem.le.refl F) _) id Imps.nil)))))))))))) (Heap.le_refl _)
theorem told_nila {c : Cd} {n : Int} {b : Bool} {e : Int} {gs : List Int} (H : Heap) : Weak (.g [.c (.int .u64 c.epoch), .c (.int .u64 c.counter), .c (.int .i64 c.tasks), .c (.int .i64 c.attempt), .c (.int .i64 c.span), .l 4 (c.pend.map Pd.av), .c (.int .u64 n), .c (.bool b), .c (.slice none 0 0), .l 1 (gs.map iu), .c (.int .i64 e)]) H (.g (Told.av ⟨c, n, b, [], gs, e⟩)) H :=
  Weak.imp (fun F => Imp.g (Imps.cons (Imp.refl (Mem.le.refl F) _) id (Imps.cons (Imp.refl (Mem.le.refl F) _) id (Imps.cons (Imp.refl (Mem.le.refl F) _) id (Imps.cons (Imp.refl (Mem.le.refl F) _) id (Imps.cons (Imp.refl (Mem.le.refl F) _) id (Imps.cons (Imp.refl (Mem.le.refl F) _) id (Imps.cons (Imp.refl (Mem.le.refl F) _) id (Imps.cons (Imp.refl (Mem.le.refl F) _) id (Imps.cons (Imp.nil_l 2) (fun _ => rfl) (Imps.cons (Imp.refl (Mem.le.refl F) _) id (Imps.cons (Imp.refl (Mem.le.refl F) _) id Imps.nil)))))))))))) (Heap.le_refl _)
theorem told_zero {e : Int} (H : Heap) : Weak (.g [.c (.int .u64 0), .c (.int .u64 0), .c (.int .i64 0), .c (.int .i64 0), .c (.int .i64 0), .c (.slice none 0 0), .c (.int .u64 0), .c (.bool false), .c (.slice none 0 0), .c (.slice none 0 0), .c (.int .i64 e)]) H (.g (Told.av ⟨zeroC, 0, false, [], [], e⟩)) H :=
  Weak.imp (fun F => Imp.g (Imps.cons (Imp.refl (Mem.le.refl F) _) id (Imps.cons (Imp.refl (Mem.le.refl F) _) id (Imps.cons (Imp.refl (Mem.le.refl F) _) id (Imps.cons (Imp.refl (Mem.le.refl F) _) id (Imps.cons (Imp.refl (Mem.le.refl F) _) id (Imps.cons (Imp.nil_l 4) (fun _ => rfl) (Imps.cons (Imp.refl (Mem.le.refl F) _) id (Imps.cons (Imp.refl (Mem.le.refl F) _) id (Imps.cons (Imp.nil_l 2) (fun _ => rfl) (Imps.cons (Imp.nil_l 1) (fun _ => rfl) (Imps.cons (Imp.refl (Mem.le.refl F) _) id Imps.nil)))))))))))) (Heap.le_refl _)
theorem runS_no {c : Cd} (h : cdOk c = false) (o : Op22) : runS o c = ⟨zeroC, 0, false, [], [], 320⟩ := by
  unfold runS trigR ackR decR wRes tickR compR restR
  simp only [h, if_true]
  repeat' split
  all_goals rfl
theorem trigR_ok {c : Cd} (h : cdOk c = true) (n : Int) (s : Bool) : trigR c n s = (if trigE c n = 0 then trigC c n s else zeroC, if trigE c n = 0 then numS c.epoch (c.counter + 1) else 0, trigE c n) := by
  unfold trigR; rw [if_neg (by rw [h]; decide)]; split <;> simp_all
theorem ackR_ok {c : Cd} (h : cdOk c = true) (n t : Int) (a : Ak) : ackR c n t a = (if ackE c n t a = 0 then ackC c n a else zeroC, if ackE c n t a = 0 then ackAll c n else false, ackE c n t a) := by
  unfold ackR; rw [if_neg (by rw [h]; decide)]; split <;> simp_all
theorem decR_ok {c : Cd} (h : cdOk c = true) (n t : Int) : decR c n t = (if oursE c n t = 0 then decC c n else zeroC, oursE c n t) := by
  unfold decR wRes; rw [if_neg (by rw [h]; decide)]; split <;> simp_all
theorem restR_ok {c : Cd} (h : cdOk c = true) (n t : Int) : restR c n t = (if restE c n t = 0 then restC c n t else zeroC, if restE c n t = 0 then c.pend.map Pd.num else [], restE c n t) := by
  unfold restR; rw [if_neg (by rw [h]; decide)]; split <;> simp_all
theorem wants_t (o : Op22) (hob : o.ack.bytes.length ≤ maxLen) (c : Cd) (hok : cdOk c = true) (hfit : c.fits) (hk : kdS o = 0 ∨ kdS o = 1) : Pure Try.prog 19 [.g (Op22.av o), .g (Cd.av c)] (.g (Told.av (runS o c))) := by
  intro H
  have hri := refRight_p c (by have := (cdOk_bd hok).1; unfold maxLen; omega) hfit.2
  rw [hok] at hri
  have hnu := number_p o c (by have := (cdOk_bd hok).1; unfold maxLen; omega)
  have hx := refTrigger_p c hok hfit o.now o.save
  have hR : runS o c = ⟨(trigR c o.now o.save).1, (trigR c o.now o.save).2.1, false, [], [], (trigR c o.now o.save).2.2⟩ := by unfold runS; rw [if_pos (by omega)]
  rw [hR]
  clear hR
  have hq := trigR_ok hok o.now o.save
  have hq1 := congrArg Prod.fst hq
  have hq2 := congrArg (fun z => z.2.1) hq
  have hq3 := congrArg (fun z => z.2.2) hq
  simp only at hq1 hq2 hq3
  rw [← hq1, ← hq2, ← hq3] at hx
  clear hq hq1 hq2 hq3
  generalize trigR c o.now o.save = R at *
  obtain ⟨R1, R2, R3⟩ := R
  generalize numO o c = N at *
  unfold kdS at hk
  obtain ⟨kd, at_, now, sv, ts, an, ⟨ta, bs⟩⟩ := o
  obtain ⟨c0, c1, c2, c3, c4, l⟩ := c
  have hl : ∀ a b c d e f, Cd.av ⟨a, b, c, d, e, f⟩ = [.c (.int .u64 a), .c (.int .u64 b), .c (.int .i64 c), .c (.int .i64 d), .c (.int .i64 e), .l 4 (f.map Pd.av)] := fun _ _ _ _ _ _ => rfl
  obtain ⟨r0, r1, r2, r3, r4, rl⟩ := R1
  simp only [hl] at hri hnu hx ⊢
  simp only [Op22.av] at hnu ⊢
  simp only at hk
  generalize hU : IntKind.u64.wrap kd = U at hk
  clear hob hok hfit hl
  rcases hk with hk | hk
  all_goals
    refine ACall_of' Try.func19 rfl (Ent_of Try.func19 (by kernel_rfl) rfl) (by simp [Try.ntmps19]) ?_; simp only [Try.ntmps19, Try.results19]
    repeat' (first
    | refine AW_seq_kn fun K hK => ?_
    | refine AW_block ?_
    | (refine does_call rfl rfl ?_; simp only [push_cast, seval, *]; refine ACall.monoP (hri _) ?_; (try simp only [push_cast, seval, *]))
    | (refine does_call rfl rfl ?_; simp only [push_cast, seval, *]; refine ACall.monoP (hnu _) ?_; (try simp only [push_cast, seval, *]))
    | (refine does_call rfl rfl ?_; simp only [push_cast, seval, *]; refine ACall.monoP (hx _) ?_; (try simp only [push_cast, seval, *]))
    | ((first
      | refine AW_region_draw (id := 13) E0 (fun f => [].contains f) dLDJ0 dADJ0 mixed (by kernel_rfl) ?_
      | refine AW_region E0 ?_ | refine AW_ret ?_ | refine AW_exit ?_ | refine AW_skip ?_ | unfold retQ); try simp only [push_cast, seval, *])
    | (apply AW_cond; (case hc => (simp only [push_cast, seval]; rfl)); all_goals (intro hc; first | (exfalso; simp only [push_cast, seval, *] at hc; done) | (exact absurd hc (by decide)) | ((try first | rw [Bool.not_true] at hc | rw [Bool.not_false] at hc); first | (with_reducible replace hc := tTT hc); clear hc | (with_reducible replace hc := tFF hc); clear hc | (have hp := hc; try simp only [decide_eq_true_eq, decide_eq_false_iff_not, bA, bB, bC, bD, bE, bF, bG, bH] at hp))))
    | (refine Kn.go hK ?_; clear hK K)
    | refine Kn.go (by assumption) ?_
    | (intro n hn; (try simp only [upd_none2, join_none_iff, ite_none, ne_eq] at hn); (try simp only [push_cast, seval, *]))
    | (intro hc)
    | fail)
    exact ⟨_, H, Weak.trans (Weak.less (by (repeat' (first | exact Heap.le_refl _ | refine hle_upd2 ?_ _ _ | (refine Heap.le_new ?_ ?_; rotate_left 1; focus (first | assumption | (simp only [upd_none2, upd_get, ne_eq, push_cast, seval, *]; done) | (simp [upd_get, *]; done))))))) (told_nil (c := ⟨r0, r1, r2, r3, r4, rl⟩) H), rfl, rfl⟩
theorem wants_a (o : Op22) (hob : o.ack.bytes.length ≤ maxLen) (c : Cd) (hok : cdOk c = true) (hfit : c.fits) (hk : kdS o = 2 ∨ kdS o = 3 ∨ kdS o = 4) : Pure Try.prog 19 [.g (Op22.av o), .g (Cd.av c)] (.g (Told.av (runS o c))) := by
  intro H
  have hri := refRight_p c (by have := (cdOk_bd hok).1; unfold maxLen; omega) hfit.2
  rw [hok] at hri
  have hnu := number_p o c (by have := (cdOk_bd hok).1; unfold maxLen; omega)
  have hx := refAcked_p c hok (numO o c) o.attempt (opAck o) (by simp [opAck, shA]; omega)
  have hoa := opAck_pp o hob
  have hR : runS o c = ⟨(ackR c (numO o c) o.attempt (opAck o)).1, 0, (ackR c (numO o c) o.attempt (opAck o)).2.1, [], [], (ackR c (numO o c) o.attempt (opAck o)).2.2⟩ := by unfold runS; rw [if_neg (by omega), if_pos (by omega)]
  rw [hR]
  clear hR
  have hq := ackR_ok hok (numO o c) o.attempt (opAck o)
  have hq1 := congrArg Prod.fst hq
  have hq2 := congrArg (fun z => z.2.1) hq
  have hq3 := congrArg (fun z => z.2.2) hq
  simp only at hq1 hq2 hq3
  rw [← hq1, ← hq2, ← hq3] at hx
  clear hq hq1 hq2 hq3
  generalize ackR c (numO o c) o.attempt (opAck o) = R at *
  obtain ⟨R1, R2, R3⟩ := R
  generalize numO o c = N at *
  generalize opAck o = w at *
  obtain ⟨wt, wb⟩ := w
  unfold kdS at hk
  obtain ⟨kd, at_, now, sv, ts, an, ⟨ta, bs⟩⟩ := o
  obtain ⟨c0, c1, c2, c3, c4, l⟩ := c
  have hl : ∀ a b c d e f, Cd.av ⟨a, b, c, d, e, f⟩ = [.c (.int .u64 a), .c (.int .u64 b), .c (.int .i64 c), .c (.int .i64 d), .c (.int .i64 e), .l 4 (f.map Pd.av)] := fun _ _ _ _ _ _ => rfl
  obtain ⟨r0, r1, r2, r3, r4, rl⟩ := R1
  simp only [hl] at hri hnu hx ⊢
  simp only [Op22.av] at hnu hoa ⊢
  have hwv : Ak.av ⟨wt, wb⟩ = [.c (.int .i64 wt), .l 1 (wb.map by1)] := rfl
  rw [hwv] at hx hoa
  simp only at hk
  generalize hU : IntKind.u64.wrap kd = U at hk
  clear hob hok hfit hl
  rcases hk with hk | hk | hk
  all_goals
    refine ACall_of' Try.func19 rfl (Ent_of Try.func19 (by kernel_rfl) rfl) (by simp [Try.ntmps19]) ?_; simp only [Try.ntmps19, Try.results19]
    repeat' (first
    | refine AW_seq_kn fun K hK => ?_
    | refine AW_block ?_
    | (refine does_call rfl rfl ?_; simp only [push_cast, seval, *]; refine ACall.monoP (hri _) ?_; (try simp only [push_cast, seval, *]))
    | (refine does_call rfl rfl ?_; simp only [push_cast, seval, *]; refine ACall.monoP (hnu _) ?_; (try simp only [push_cast, seval, *]))
    | (refine does_call rfl rfl ?_; simp only [push_cast, seval, *]; refine ACall.monoP (hoa _) ?_; (try simp only [push_cast, seval, *]))
    | (refine does_call rfl rfl ?_; simp only [push_cast, seval, *]; refine ACall.monoP (hx _) ?_; (try simp only [push_cast, seval, *]))
    | ((first
      | refine AW_region_draw (id := 13) E0 (fun f => [].contains f) dLDJ0 dADJ0 mixed (by kernel_rfl) ?_
      | refine AW_region E0 ?_ | refine AW_ret ?_ | refine AW_exit ?_ | refine AW_skip ?_ | unfold retQ); try simp only [push_cast, seval, *])
    | (apply AW_cond; (case hc => (simp only [push_cast, seval]; rfl)); all_goals (intro hc; first | (exfalso; simp only [push_cast, seval, *] at hc; done) | (exact absurd hc (by decide)) | ((try first | rw [Bool.not_true] at hc | rw [Bool.not_false] at hc); first | (with_reducible replace hc := tTT hc); clear hc | (with_reducible replace hc := tFF hc); clear hc | (have hp := hc; try simp only [decide_eq_true_eq, decide_eq_false_iff_not, bA, bB, bC, bD, bE, bF, bG, bH] at hp))))
    | (refine Kn.go hK ?_; clear hK K)
    | refine Kn.go (by assumption) ?_
    | (intro n hn; (try simp only [upd_none2, join_none_iff, ite_none, ne_eq] at hn); (try simp only [push_cast, seval, *]))
    | (intro hc)
    | fail)
    exact ⟨_, H, Weak.trans (Weak.less (by (repeat' (first | exact Heap.le_refl _ | refine hle_upd2 ?_ _ _ | (refine Heap.le_new ?_ ?_; rotate_left 1; focus (first | assumption | (simp only [upd_none2, upd_get, ne_eq, push_cast, seval, *]; done) | (simp [upd_get, *]; done))))))) (told_nil (c := ⟨r0, r1, r2, r3, r4, rl⟩) H), rfl, rfl⟩
theorem wants_d (o : Op22) (hob : o.ack.bytes.length ≤ maxLen) (c : Cd) (hok : cdOk c = true) (hfit : c.fits) (hk : kdS o = 5) : Pure Try.prog 19 [.g (Op22.av o), .g (Cd.av c)] (.g (Told.av (runS o c))) := by
  intro H
  have hri := refRight_p c (by have := (cdOk_bd hok).1; unfold maxLen; omega) hfit.2
  rw [hok] at hri
  have hnu := number_p o c (by have := (cdOk_bd hok).1; unfold maxLen; omega)
  have hx := refDecline_p c hok (numO o c) o.attempt
  have hR : runS o c = ⟨(decR c (numO o c) o.attempt).1, 0, false, [], [], (decR c (numO o c) o.attempt).2⟩ := by unfold runS; rw [if_neg (by omega), if_neg (by omega), if_pos (by omega)]
  rw [hR]
  clear hR
  have hq := decR_ok hok (numO o c) o.attempt
  have hq1 := congrArg Prod.fst hq
  have hq2 := congrArg Prod.snd hq
  simp only at hq1 hq2
  rw [← hq1, ← hq2] at hx
  clear hq hq1 hq2
  generalize decR c (numO o c) o.attempt = R at *
  obtain ⟨R1, R2⟩ := R
  generalize numO o c = N at *
  unfold kdS at hk
  obtain ⟨kd, at_, now, sv, ts, an, ⟨ta, bs⟩⟩ := o
  obtain ⟨c0, c1, c2, c3, c4, l⟩ := c
  have hl : ∀ a b c d e f, Cd.av ⟨a, b, c, d, e, f⟩ = [.c (.int .u64 a), .c (.int .u64 b), .c (.int .i64 c), .c (.int .i64 d), .c (.int .i64 e), .l 4 (f.map Pd.av)] := fun _ _ _ _ _ _ => rfl
  obtain ⟨r0, r1, r2, r3, r4, rl⟩ := R1
  simp only [hl] at hri hnu hx ⊢
  simp only [Op22.av] at hnu ⊢
  simp only at hk
  generalize hU : IntKind.u64.wrap kd = U at hk
  clear hob hok hfit hl
  skip
  all_goals
    refine ACall_of' Try.func19 rfl (Ent_of Try.func19 (by kernel_rfl) rfl) (by simp [Try.ntmps19]) ?_; simp only [Try.ntmps19, Try.results19]
    repeat' (first
    | refine AW_seq_kn fun K hK => ?_
    | refine AW_block ?_
    | (refine does_call rfl rfl ?_; simp only [push_cast, seval, *]; refine ACall.monoP (hri _) ?_; (try simp only [push_cast, seval, *]))
    | (refine does_call rfl rfl ?_; simp only [push_cast, seval, *]; refine ACall.monoP (hnu _) ?_; (try simp only [push_cast, seval, *]))
    | (refine does_call rfl rfl ?_; simp only [push_cast, seval, *]; refine ACall.monoP (hx _) ?_; (try simp only [push_cast, seval, *]))
    | ((first
      | refine AW_region_draw (id := 13) E0 (fun f => [].contains f) dLDJ0 dADJ0 mixed (by kernel_rfl) ?_
      | refine AW_region E0 ?_ | refine AW_ret ?_ | refine AW_exit ?_ | refine AW_skip ?_ | unfold retQ); try simp only [push_cast, seval, *])
    | (apply AW_cond; (case hc => (simp only [push_cast, seval]; rfl)); all_goals (intro hc; first | (exfalso; simp only [push_cast, seval, *] at hc; done) | (exact absurd hc (by decide)) | ((try first | rw [Bool.not_true] at hc | rw [Bool.not_false] at hc); first | (with_reducible replace hc := tTT hc); clear hc | (with_reducible replace hc := tFF hc); clear hc | (have hp := hc; try simp only [decide_eq_true_eq, decide_eq_false_iff_not, bA, bB, bC, bD, bE, bF, bG, bH] at hp))))
    | (refine Kn.go hK ?_; clear hK K)
    | refine Kn.go (by assumption) ?_
    | (intro n hn; (try simp only [upd_none2, join_none_iff, ite_none, ne_eq] at hn); (try simp only [push_cast, seval, *]))
    | (intro hc)
    | fail)
    exact ⟨_, H, Weak.trans (Weak.less (by (repeat' (first | exact Heap.le_refl _ | refine hle_upd2 ?_ _ _ | (refine Heap.le_new ?_ ?_; rotate_left 1; focus (first | assumption | (simp only [upd_none2, upd_get, ne_eq, push_cast, seval, *]; done) | (simp [upd_get, *]; done))))))) (told_nil (c := ⟨r0, r1, r2, r3, r4, rl⟩) H), rfl, rfl⟩
theorem wants_l (o : Op22) (hob : o.ack.bytes.length ≤ maxLen) (c : Cd) (hok : cdOk c = true) (hfit : c.fits) (hk : kdS o = 6) : Pure Try.prog 19 [.g (Op22.av o), .g (Cd.av c)] (.g (Told.av (runS o c))) := by
  intro H
  have hri := refRight_p c (by have := (cdOk_bd hok).1; unfold maxLen; omega) hfit.2
  rw [hok] at hri
  have hnu := number_p o c (by have := (cdOk_bd hok).1; unfold maxLen; omega)
  have hx := refLate_p c hok o.now
  have hR : runS o c = ⟨(tickR c o.now).1, 0, false, [], (tickR c o.now).2.1, (tickR c o.now).2.2⟩ := by unfold runS; rw [if_neg (by omega), if_neg (by omega), if_neg (by omega), if_pos (by omega)]
  rw [hR]
  clear hR
  generalize tickR c o.now = R at *
  obtain ⟨R1, R2, R3⟩ := R
  generalize numO o c = N at *
  unfold kdS at hk
  obtain ⟨kd, at_, now, sv, ts, an, ⟨ta, bs⟩⟩ := o
  obtain ⟨c0, c1, c2, c3, c4, l⟩ := c
  have hl : ∀ a b c d e f, Cd.av ⟨a, b, c, d, e, f⟩ = [.c (.int .u64 a), .c (.int .u64 b), .c (.int .i64 c), .c (.int .i64 d), .c (.int .i64 e), .l 4 (f.map Pd.av)] := fun _ _ _ _ _ _ => rfl
  obtain ⟨r0, r1, r2, r3, r4, rl⟩ := R1
  simp only [hl] at hri hnu hx ⊢
  simp only [Op22.av] at hnu ⊢
  simp only at hk
  generalize hU : IntKind.u64.wrap kd = U at hk
  clear hob hok hfit hl
  skip
  all_goals
    refine ACall_of' Try.func19 rfl (Ent_of Try.func19 (by kernel_rfl) rfl) (by simp [Try.ntmps19]) ?_; simp only [Try.ntmps19, Try.results19]
    repeat' (first
    | refine AW_seq_kn fun K hK => ?_
    | refine AW_block ?_
    | (refine does_call rfl rfl ?_; simp only [push_cast, seval, *]; refine ACall.monoP (hri _) ?_; (try simp only [push_cast, seval, *]))
    | (refine does_call rfl rfl ?_; simp only [push_cast, seval, *]; refine ACall.monoP (hnu _) ?_; (try simp only [push_cast, seval, *]))
    | (refine does_call rfl rfl ?_; simp only [push_cast, seval, *]; refine ACall.monoP (hx _) ?_; (try simp only [push_cast, seval, *]))
    | ((first
      | refine AW_region_draw (id := 13) E0 (fun f => [].contains f) dLDJ0 dADJ0 mixed (by kernel_rfl) ?_
      | refine AW_region E0 ?_ | refine AW_ret ?_ | refine AW_exit ?_ | refine AW_skip ?_ | unfold retQ); try simp only [push_cast, seval, *])
    | (apply AW_cond; (case hc => (simp only [push_cast, seval]; rfl)); all_goals (intro hc; first | (exfalso; simp only [push_cast, seval, *] at hc; done) | (exact absurd hc (by decide)) | ((try first | rw [Bool.not_true] at hc | rw [Bool.not_false] at hc); first | (with_reducible replace hc := tTT hc); clear hc | (with_reducible replace hc := tFF hc); clear hc | (have hp := hc; try simp only [decide_eq_true_eq, decide_eq_false_iff_not, bA, bB, bC, bD, bE, bF, bG, bH] at hp))))
    | (refine Kn.go hK ?_; clear hK K)
    | refine Kn.go (by assumption) ?_
    | (intro n hn; (try simp only [upd_none2, join_none_iff, ite_none, ne_eq] at hn); (try simp only [push_cast, seval, *]))
    | (intro hc)
    | fail)
    exact ⟨_, H, Weak.trans (Weak.less (by (repeat' (first | exact Heap.le_refl _ | refine hle_upd2 ?_ _ _ | (refine Heap.le_new ?_ ?_; rotate_left 1; focus (first | assumption | (simp only [upd_none2, upd_get, ne_eq, push_cast, seval, *]; done) | (simp [upd_get, *]; done))))))) (told_nila (c := ⟨r0, r1, r2, r3, r4, rl⟩) H), rfl, rfl⟩
theorem wants_c (o : Op22) (hob : o.ack.bytes.length ≤ maxLen) (c : Cd) (hok : cdOk c = true) (hfit : c.fits) (hk : kdS o = 7 ∨ kdS o = 8) : Pure Try.prog 19 [.g (Op22.av o), .g (Cd.av c)] (.g (Told.av (runS o c))) := by
  intro H
  have hri := refRight_p c (by have := (cdOk_bd hok).1; unfold maxLen; omega) hfit.2
  rw [hok] at hri
  have hnu := number_p o c (by have := (cdOk_bd hok).1; unfold maxLen; omega)
  have hx := refComplete_p c hok (numO o c)
  have hR : runS o c = ⟨(compR c (numO o c)).1, 0, false, (compR c (numO o c)).2.1, (compR c (numO o c)).2.2.1, (compR c (numO o c)).2.2.2⟩ := by unfold runS; rw [if_neg (by omega), if_neg (by omega), if_neg (by omega), if_neg (by omega), if_pos (by omega)]
  rw [hR]
  clear hR
  generalize compR c (numO o c) = R at *
  obtain ⟨R1, R2, R3, R4⟩ := R
  generalize numO o c = N at *
  unfold kdS at hk
  obtain ⟨kd, at_, now, sv, ts, an, ⟨ta, bs⟩⟩ := o
  obtain ⟨c0, c1, c2, c3, c4, l⟩ := c
  have hl : ∀ a b c d e f, Cd.av ⟨a, b, c, d, e, f⟩ = [.c (.int .u64 a), .c (.int .u64 b), .c (.int .i64 c), .c (.int .i64 d), .c (.int .i64 e), .l 4 (f.map Pd.av)] := fun _ _ _ _ _ _ => rfl
  obtain ⟨r0, r1, r2, r3, r4, rl⟩ := R1
  simp only [hl] at hri hnu hx ⊢
  simp only [Op22.av] at hnu ⊢
  simp only at hk
  generalize hU : IntKind.u64.wrap kd = U at hk
  clear hob hok hfit hl
  rcases hk with hk | hk
  all_goals
    refine ACall_of' Try.func19 rfl (Ent_of Try.func19 (by kernel_rfl) rfl) (by simp [Try.ntmps19]) ?_; simp only [Try.ntmps19, Try.results19]
    repeat' (first
    | refine AW_seq_kn fun K hK => ?_
    | refine AW_block ?_
    | (refine does_call rfl rfl ?_; simp only [push_cast, seval, *]; refine ACall.monoP (hri _) ?_; (try simp only [push_cast, seval, *]))
    | (refine does_call rfl rfl ?_; simp only [push_cast, seval, *]; refine ACall.monoP (hnu _) ?_; (try simp only [push_cast, seval, *]))
    | (refine does_call rfl rfl ?_; simp only [push_cast, seval, *]; refine ACall.monoP (hx _) ?_; (try simp only [push_cast, seval, *]))
    | ((first
      | refine AW_region_draw (id := 13) E0 (fun f => [].contains f) dLDJ0 dADJ0 mixed (by kernel_rfl) ?_
      | refine AW_region E0 ?_ | refine AW_ret ?_ | refine AW_exit ?_ | refine AW_skip ?_ | unfold retQ); try simp only [push_cast, seval, *])
    | (apply AW_cond; (case hc => (simp only [push_cast, seval]; rfl)); all_goals (intro hc; first | (exfalso; simp only [push_cast, seval, *] at hc; done) | (exact absurd hc (by decide)) | ((try first | rw [Bool.not_true] at hc | rw [Bool.not_false] at hc); first | (with_reducible replace hc := tTT hc); clear hc | (with_reducible replace hc := tFF hc); clear hc | (have hp := hc; try simp only [decide_eq_true_eq, decide_eq_false_iff_not, bA, bB, bC, bD, bE, bF, bG, bH] at hp))))
    | (refine Kn.go hK ?_; clear hK K)
    | refine Kn.go (by assumption) ?_
    | (intro n hn; (try simp only [upd_none2, join_none_iff, ite_none, ne_eq] at hn); (try simp only [push_cast, seval, *]))
    | (intro hc)
    | fail)
    exact ⟨_, H, Weak.less (by (repeat' (first | exact Heap.le_refl _ | refine hle_upd2 ?_ _ _ | (refine Heap.le_new ?_ ?_; rotate_left 1; focus (first | assumption | (simp only [upd_none2, upd_get, ne_eq, push_cast, seval, *]; done) | (simp [upd_get, *]; done)))))), rfl, rfl⟩
theorem wants_r (o : Op22) (hob : o.ack.bytes.length ≤ maxLen) (c : Cd) (hok : cdOk c = true) (hfit : c.fits) (hk : kdS o = 9) : Pure Try.prog 19 [.g (Op22.av o), .g (Cd.av c)] (.g (Told.av (runS o c))) := by
  intro H
  have hri := refRight_p c (by have := (cdOk_bd hok).1; unfold maxLen; omega) hfit.2
  rw [hok] at hri
  have hnu := number_p o c (by have := (cdOk_bd hok).1; unfold maxLen; omega)
  have hx := refRestart_p c (cdOk_bd hok).1 o.tasks o.attempt
  have hR : runS o c = ⟨(restR c o.tasks o.attempt).1, 0, false, [], (restR c o.tasks o.attempt).2.1, (restR c o.tasks o.attempt).2.2⟩ := by unfold runS; rw [if_neg (by omega), if_neg (by omega), if_neg (by omega), if_neg (by omega), if_neg (by omega)]
  rw [hR]
  clear hR
  have hq := restR_ok hok o.tasks o.attempt
  have hq1 := congrArg Prod.fst hq
  have hq2 := congrArg (fun z => z.2.1) hq
  have hq3 := congrArg (fun z => z.2.2) hq
  simp only at hq1 hq2 hq3
  rw [← hq1, ← hq2, ← hq3] at hx
  clear hq hq1 hq2 hq3
  generalize restR c o.tasks o.attempt = R at *
  obtain ⟨R1, R2, R3⟩ := R
  generalize numO o c = N at *
  unfold kdS at hk
  obtain ⟨kd, at_, now, sv, ts, an, ⟨ta, bs⟩⟩ := o
  obtain ⟨c0, c1, c2, c3, c4, l⟩ := c
  have hl : ∀ a b c d e f, Cd.av ⟨a, b, c, d, e, f⟩ = [.c (.int .u64 a), .c (.int .u64 b), .c (.int .i64 c), .c (.int .i64 d), .c (.int .i64 e), .l 4 (f.map Pd.av)] := fun _ _ _ _ _ _ => rfl
  obtain ⟨r0, r1, r2, r3, r4, rl⟩ := R1
  simp only [hl] at hri hnu hx ⊢
  simp only [Op22.av] at hnu ⊢
  simp only at hk
  generalize hU : IntKind.u64.wrap kd = U at hk
  clear hob hok hfit hl
  skip
  all_goals
    refine ACall_of' Try.func19 rfl (Ent_of Try.func19 (by kernel_rfl) rfl) (by simp [Try.ntmps19]) ?_; simp only [Try.ntmps19, Try.results19]
    repeat' (first
    | refine AW_seq_kn fun K hK => ?_
    | refine AW_block ?_
    | (refine does_call rfl rfl ?_; simp only [push_cast, seval, *]; refine ACall.monoP (hri _) ?_; (try simp only [push_cast, seval, *]))
    | (refine does_call rfl rfl ?_; simp only [push_cast, seval, *]; refine ACall.monoP (hnu _) ?_; (try simp only [push_cast, seval, *]))
    | (refine does_call rfl rfl ?_; simp only [push_cast, seval, *]; refine ACall.monoP (hx _) ?_; (try simp only [push_cast, seval, *]))
    | ((first
      | refine AW_region_draw (id := 13) E0 (fun f => [].contains f) dLDJ0 dADJ0 mixed (by kernel_rfl) ?_
      | refine AW_region E0 ?_ | refine AW_ret ?_ | refine AW_exit ?_ | refine AW_skip ?_ | unfold retQ); try simp only [push_cast, seval, *])
    | (apply AW_cond; (case hc => (simp only [push_cast, seval]; rfl)); all_goals (intro hc; first | (exfalso; simp only [push_cast, seval, *] at hc; done) | (exact absurd hc (by decide)) | ((try first | rw [Bool.not_true] at hc | rw [Bool.not_false] at hc); first | (with_reducible replace hc := tTT hc); clear hc | (with_reducible replace hc := tFF hc); clear hc | (have hp := hc; try simp only [decide_eq_true_eq, decide_eq_false_iff_not, bA, bB, bC, bD, bE, bF, bG, bH] at hp))))
    | (refine Kn.go hK ?_; clear hK K)
    | refine Kn.go (by assumption) ?_
    | (intro n hn; (try simp only [upd_none2, join_none_iff, ite_none, ne_eq] at hn); (try simp only [push_cast, seval, *]))
    | (intro hc)
    | fail)
    exact ⟨_, H, Weak.trans (Weak.less (by (repeat' (first | exact Heap.le_refl _ | refine hle_upd2 ?_ _ _ | (refine Heap.le_new ?_ ?_; rotate_left 1; focus (first | assumption | (simp only [upd_none2, upd_get, ne_eq, push_cast, seval, *]; done) | (simp [upd_get, *]; done))))))) (told_nila (c := ⟨r0, r1, r2, r3, r4, rl⟩) H), rfl, rfl⟩
theorem wants_p (o : Op22) (hob : o.ack.bytes.length ≤ maxLen) (c : Cd) (hl : c.pend.length ≤ maxLen) (hfit : c.fits) : Pure Try.prog 19 [.g (Op22.av o), .g (Cd.av c)] (.g (Told.av (runS o c))) := by
  cases hok : cdOk c
  · intro H
    have hri := refRight_p c hl hfit.2
    rw [hok] at hri
    rw [runS_no hok o]
    obtain ⟨kd, at_, now, sv, ts, an, ⟨ta, bs⟩⟩ := o
    obtain ⟨c0, c1, c2, c3, c4, l⟩ := c
    simp only [Cd.av, Op22.av] at hri ⊢
    clear hob hl hfit hok
    refine ACall_of' Try.func19 rfl (Ent_of Try.func19 (by kernel_rfl) rfl) (by simp [Try.ntmps19]) ?_; simp only [Try.ntmps19, Try.results19]
    repeat' (first
    | refine AW_seq_kn fun K hK => ?_
    | refine AW_block ?_
    | (refine does_call rfl rfl ?_; simp only [push_cast, seval, *]; refine ACall.monoP (hri _) ?_; (try simp only [push_cast, seval, *]))
    | ((first
      | refine AW_region_draw (id := 13) E0 (fun f => [].contains f) dLDJ0 dADJ0 mixed (by kernel_rfl) ?_
      | refine AW_region E0 ?_ | refine AW_ret ?_ | refine AW_exit ?_ | refine AW_skip ?_ | unfold retQ); try simp only [push_cast, seval, *])
    | (apply AW_cond; (case hc => (simp only [push_cast, seval]; rfl)); all_goals (intro hc; first | (exfalso; simp only [push_cast, seval, *] at hc; done) | (exact absurd hc (by decide)) | ((try first | rw [Bool.not_true] at hc | rw [Bool.not_false] at hc); first | (with_reducible replace hc := tTT hc); clear hc | (with_reducible replace hc := tFF hc); clear hc | (have hp := hc; try simp only [decide_eq_true_eq, decide_eq_false_iff_not, bA, bB, bC, bD, bE, bF, bG, bH] at hp))))
    | (refine Kn.go hK ?_; clear hK K)
    | refine Kn.go (by assumption) ?_
    | (intro n hn; (try simp only [upd_none2, join_none_iff, ite_none, ne_eq] at hn); (try simp only [push_cast, seval, *]))
    | (intro hc)
    | fail)
    exact ⟨_, H, Weak.trans (Weak.less (by (repeat' (first | exact Heap.le_refl _ | refine hle_upd2 ?_ _ _ | (refine Heap.le_new ?_ ?_; rotate_left 1; focus (first | assumption | (simp only [upd_none2, upd_get, ne_eq, push_cast, seval, *]; done) | (simp [upd_get, *]; done))))))) (told_zero H), rfl, rfl⟩
  have hb := kdS_bd o
  have hc : (kdS o = 0 ∨ kdS o = 1) ∨ (kdS o = 2 ∨ kdS o = 3 ∨ kdS o = 4) ∨ kdS o = 5 ∨ kdS o = 6 ∨ (kdS o = 7 ∨ kdS o = 8) ∨ kdS o = 9 := by omega
  rcases hc with h | h | h | h | h | h
  · exact wants_t o hob c hok hfit h
  · exact wants_a o hob c hok hfit h
  · exact wants_d o hob c hok hfit h
  · exact wants_l o hob c hok hfit h
  · exact wants_c o hob c hok hfit h
  · exact wants_r o hob c hok hfit h
end Go.Proofs.Ytlbdpnlmdcajbaa
