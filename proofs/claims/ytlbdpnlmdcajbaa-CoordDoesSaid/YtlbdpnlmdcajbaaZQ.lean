/- What an op does: acks; all of it. -/
import Derived.Test.YtlbdpnlmdcajbaaY
import Derived.Test.YtlbdpnlmdcajbaaZP
namespace Go.Proofs.Ytlbdpnlmdcajbaa
open Go.RowKit
open Nat renaming reduceEqDiff → nA, reduceLT → nB, reduceLeDiff → nC, reduceAdd → nD, reduceMul → nE, reduceSub → nF, reduceBEq → nG
open Int renaming reduceToNat → iA, reduceLT → iB, reduceLE → iC, reduceEq → iD
open Bool renaming and_eq_true → bA, or_eq_true → bB, or_eq_false_iff → bC, and_eq_false_iff → bD, not_eq_true' → bE, not_eq_false' → bF, not_true → bG, not_false → bH
set_option linter.all false
set_option maxHeartbeats 4000000
attribute [local irreducible] AW Does ACall tE tS tB tZ
set_option maxRecDepth 5000

theorem runAck_o (o : Op22) (hob : o.ack.bytes.length ≤ maxLen) (c : Cd) (hl : c.pend.length ≤ maxLen) (hfit : c.fits) (hk : kdS o = 2 ∨ kdS o = 3 ∨ kdS o = 4) (H : Heap) :
    ACall Try.prog 18 [.g (Op22.av o), .g (Cd.av c)] H fun r H' => ∃ y, r = .g (Told.cl ⟨(ackR c (numO o c) o.attempt (opAck o)).1, 0, (ackR c (numO o c) o.attempt (opAck o)).2.1, [], [], (ackR c (numO o c) o.attempt (opAck o)).2.2⟩ y (.c (.slice none 0 0)) (.c (.slice none 0 0))) ∧ OwnP y (ackR c (numO o c) o.attempt (opAck o)).1.pend H' H := by
  have hnu := number_p o c hl
  have hbl : (opAck o).bytes.length ≤ 3001 := by simp [opAck, shA]; omega
  have hx := Acked_l c hl hfit (numO o c) o.attempt (opAck o) (by unfold maxLen; omega)
  have hoa := opAck_o o hob
  generalize ackR c (numO o c) o.attempt (opAck o) = R at *
  obtain ⟨R1, R2, R3⟩ := R
  generalize numO o c = N at *
  generalize opAck o = w at *
  obtain ⟨wt, wb⟩ := w
  unfold kdS at hk
  obtain ⟨kd, at_, now, sv, ts, an, ⟨ta, bs⟩⟩ := o
  obtain ⟨c0, c1, c2, c3, c4, l⟩ := c
  simp only [Op22.av, Cd.av, Cd.cl, Told.cl] at hnu hx hoa ⊢
  simp only at hk hbl
  generalize hU : IntKind.u64.wrap kd = U at hk
  clear hl hfit hob
  replace hx := Lib.hid hx
  replace hoa := Lib.hid hoa
  rcases hk with hk | hk | hk
  all_goals
    refine ACall_of' Try.func18 rfl (Ent_of Try.func18 (by kernel_rfl) rfl) (by simp [Try.ntmps18]) ?_; simp only [Try.ntmps18, Try.results18]
    repeat' (first
    | refine AW_seq_kn fun K hK => ?_
    | refine AW_block ?_
    | (refine does_call rfl rfl ?_; simp only [push_cast, seval, *]; refine ACall.monoP (hnu _) ?_; (try simp only [push_cast, seval, *]))
    | ((first
      | refine AW_region E0 ?_ | refine AW_ret ?_ | refine AW_exit ?_ | refine AW_skip ?_ | unfold retQ); try simp only [push_cast, seval, *])
    | (apply AW_cond; (case hc => (simp only [push_cast, seval]; rfl)); all_goals (intro hc; first | (exfalso; simp only [push_cast, seval, *] at hc; done) | (exact absurd hc (by decide)) | ((try first | rw [Bool.not_true] at hc | rw [Bool.not_false] at hc); first | (with_reducible replace hc := tTT hc); clear hc | (with_reducible replace hc := tFF hc); clear hc | (have hp := hc; try simp only [decide_eq_true_eq, decide_eq_false_iff_not, bA, bB, bC, bD, bE, bF, bG, bH] at hp))))
    | (refine Kn.go hK ?_; clear hK K)
    | refine Kn.go (by assumption) ?_
    | (intro n hn; (try simp only [upd_none2, join_none_iff, ite_none, ne_eq] at hn); (try simp only [push_cast, seval, *]))
    | (intro hc)
    | fail)
    rename_i n1 h1 n2 h2 K1 hK1
    generalize n = n4 at *
    obtain ⟨Gs, hGs⟩ : ∃ Gs : Heap, Gs = upd (upd (upd H n1 (.r 49 8 1 [[.c (.int .i64 kd), .c (.int .i64 at_), .c (.int .i64 now), .c (.bool sv), .c (.int .i64 ts), .c (.int .i64 an), .c (.int .i64 ta), .l 1 (bs.map by1)]])) n2 (.r 30 6 1 [[.c (.int .u64 c0), .c (.int .u64 c1), .c (.int .i64 c2), .c (.int .i64 c3), .c (.int .i64 c4), .l 4 (l.map Pd.av)]])) n4 (.r 52 11 1 [ztold]) := ⟨_, rfl⟩
    have g1 : Gs n1 = some (.r 49 8 1 [[.c (.int .i64 kd), .c (.int .i64 at_), .c (.int .i64 now), .c (.bool sv), .c (.int .i64 ts), .c (.int .i64 an), .c (.int .i64 ta), .l 1 (bs.map by1)]]) := by rw [hGs]; simp only [push_cast, seval, upd_get, *]
    have g2 : Gs n2 = some (.r 30 6 1 [[.c (.int .u64 c0), .c (.int .u64 c1), .c (.int .i64 c2), .c (.int .i64 c3), .c (.int .i64 c4), .l 4 (l.map Pd.av)]]) := by rw [hGs]; simp only [push_cast, seval, upd_get, *]
    have g4 : Gs n4 = some (.r 52 11 1 [ztold]) := by rw [hGs]; exact upd_same _ _ _
    have gn4 : H n4 = none := hn.2.2
    have hle : Heap.le H Gs := by rw [hGs]; (repeat' (first | exact Heap.le_refl _ | refine hle_upd2 ?_ _ _ | (refine Heap.le_new ?_ ?_; rotate_left 1; focus (first | assumption | (simp only [upd_none2, upd_get, ne_eq, push_cast, seval, *]; done) | (simp [upd_get, *]; done)))))
    rw [← hGs]
    clear hGs h1 h2 hn
    replace hle := Lib.hid hle
    refine does_call rfl rfl ?_
    simp only [push_cast, seval, *]
    refine ACall.mono (unhid hoa Gs) ?_
    rintro _ Hz ⟨z, rfl, hoz⟩
    have hzcs := hoz.cs
    have hzone := hoz.one
    have hzlen := hoz.len
    rw [List.length_map] at hzlen
    have k1 := hoz.get g1
    have k2 := hoz.get g2
    have k4 := hoz.get g4
    have o1 := ne_old k1
    have o2 := ne_old k2
    have o4 := ne_old k4
    replace hoz := Lib.hid hoz
    clear hoa hnu hU g1 g2
    (try simp only [push_cast, seval, *])
    repeat' (first
    | refine AW_seq_kn fun K hK => ?_
    | refine AW_block ?_
    | ((first
      | refine AW_region E0 ?_ | refine AW_ret ?_ | refine AW_exit ?_ | refine AW_skip ?_ | unfold retQ); try simp only [push_cast, seval, *])
    | (apply AW_cond; (case hc => (simp only [push_cast, seval]; rfl)); all_goals (intro hc; first | (exfalso; simp only [push_cast, seval, *] at hc; done) | (exact absurd hc (by decide)) | ((try first | rw [Bool.not_true] at hc | rw [Bool.not_false] at hc); first | (with_reducible replace hc := tTT hc); clear hc | (with_reducible replace hc := tFF hc); clear hc | (have hp := hc; try simp only [decide_eq_true_eq, decide_eq_false_iff_not, bA, bB, bC, bD, bE, bF, bG, bH] at hp))))
    | (refine Kn.go hK ?_; clear hK K)
    | refine Kn.go (by assumption) ?_
    | (intro n hn; (try simp only [upd_none2, join_none_iff, ite_none, ne_eq] at hn); (try simp only [push_cast, seval, *]))
    | (intro hc)
    | fail)
    have hz6 := (unhid hoz).new hn (.r 47 2 1 [[.c (.int .i64 wt), z]])
    refine does_call rfl rfl ?_
    simp only [push_cast, seval, *]
    refine ACall.mono (unhid hx z _ hz6.lent) ?_
    rintro _ Hr ⟨y, rfl, ho⟩
    have j4 := (OwnP_loc y R1.pend).get ho (m := n4) (by rw [upd_ne (by have := (o4 n hn).1; simpa using this)]; exact k4)
    have j6 := (OwnP_loc y R1.pend).get ho (m := n) (upd_same _ _ _)
    have hycs := ho.cs
    have hyone := ho.one
    have n46 : ¬ n4 = n := by have := (o4 n hn).1; simpa using this
    have n64 : ¬ n = n4 := fun e => n46 e.symm
    clear hx k1 k2 o1 o2
    simp only [ztold] at j4
    replace ho := Lib.hid ho
    (try simp only [push_cast, seval, *])
    repeat' (first
    | refine AW_seq_kn fun K hK => ?_
    | refine AW_block ?_
    | ((first
      | refine AW_region E0 ?_ | refine AW_ret ?_ | refine AW_exit ?_ | refine AW_skip ?_ | unfold retQ); try simp only [push_cast, seval, *])
    | (apply AW_cond; (case hc => (simp only [push_cast, seval]; rfl)); all_goals (intro hc; first | (exfalso; simp only [push_cast, seval, *] at hc; done) | (exact absurd hc (by decide)) | ((try first | rw [Bool.not_true] at hc | rw [Bool.not_false] at hc); first | (with_reducible replace hc := tTT hc); clear hc | (with_reducible replace hc := tFF hc); clear hc | (have hp := hc; try simp only [decide_eq_true_eq, decide_eq_false_iff_not, bA, bB, bC, bD, bE, bF, bG, bH] at hp))))
    | (refine Kn.go hK ?_; clear hK K)
    | refine Kn.go (by assumption) ?_
    | (intro n hn; (try simp only [upd_none2, join_none_iff, ite_none, ne_eq] at hn); (try simp only [push_cast, seval, *]))
    | (intro hc)
    | fail)
    have hgn : Gs n = none := (Loc.own z 5 1 _).old (unhid hoz) hn
    have e4 : (upd Hz n (.r 47 2 1 [[.c (.int .i64 wt), z]])) n4 = some (.r 52 11 1 [ztold]) := by rw [upd_ne n46]; exact k4
    have t4 := (OwnP_loc y R1.pend).turn (unhid ho) e4 (.r 52 11 1 [[.c (.int .u64 R1.epoch), .c (.int .u64 R1.counter), .c (.int .i64 R1.tasks), .c (.int .i64 R1.attempt), .c (.int .i64 R1.span), y, .c (.int .u64 0), .c (.bool R2), .c (.slice none 0 0), .c (.slice none 0 0), .c (.int .i64 R3)]])
    rcases (unhid hoz).split with ⟨ad, rfl, hw0, -⟩ | ⟨nz, cap, rfl, rfl, hnz⟩
    · have hwb : wb = [] := List.map_eq_nil_iff.1 hw0
      obtain ⟨H2, l1, l2⟩ := (OwnP_loc y R1.pend).cut t4 (K := H) (fun q b hq => by
        have hG := unhid hle q b hq
        have c1 : q ≠ n4 := by rintro rfl; rw [gn4] at hq; cases hq
        have c2 : q ≠ n := by rintro rfl; rw [hgn] at hG; cases hG
        rw [upd_ne c1, upd_ne c2]; exact (unhid hoz).get hG)
      clear t4 ho hoz hz6 o4 k4 e4 hw0 g4 gn4 hle
      subst hwb
      replace l1 := Lib.hid l1
      replace l2 := Lib.hid l2
      refine AW_loopN 0 (fun _ => True) (fun k => [(4, .p n4 11 0 0), (6, .p n 2 0 0), (65, ci 0), (66, ci k)]) (fun _ => _) trivial ?_ (Heap.le_refl _) ?_ ?_
      · (first | trivial | (simp only [push_cast, seval, *]; done))
      · intro k hk; omega
      · intro _
        repeat' (first
    | refine AW_seq_kn fun K hK => ?_
    | refine AW_block ?_
    | ((first
      | refine AW_region E0 ?_ | refine AW_ret ?_ | refine AW_exit ?_ | refine AW_skip ?_ | unfold retQ); try simp only [push_cast, seval, *])
    | (apply AW_cond; (case hc => (simp only [push_cast, seval]; rfl)); all_goals (intro hc; first | (exfalso; simp only [push_cast, seval, *] at hc; done) | (exact absurd hc (by decide)) | ((try first | rw [Bool.not_true] at hc | rw [Bool.not_false] at hc); first | (with_reducible replace hc := tTT hc); clear hc | (with_reducible replace hc := tFF hc); clear hc | (have hp := hc; try simp only [decide_eq_true_eq, decide_eq_false_iff_not, bA, bB, bC, bD, bE, bF, bG, bH] at hp))))
    | (refine Kn.go hK ?_; clear hK K)
    | refine Kn.go (by assumption) ?_
    | (intro n hn; (try simp only [upd_none2, join_none_iff, ite_none, ne_eq] at hn); (try simp only [push_cast, seval, *]))
    | (intro hc)
    | fail)
        exact ⟨_, H2, Weak.less (unhid l1), y, rfl, unhid l2⟩
    · have kz : (upd Gs nz (.r 5 1 cap (wb.map by1))) nz = some (.r 5 1 cap (wb.map by1)) := upd_same _ _ _
      have nzn : ¬ nz = n := by rintro rfl; rw [kz] at hn; cases hn
      have nzn' : ¬ n = nz := fun e => nzn e.symm
      have nz4 : ¬ nz = n4 := by rintro rfl; rw [hnz] at g4; cases g4
      have nz4' : ¬ n4 = nz := fun e => nz4 e.symm
      have jz := (OwnP_loc y R1.pend).get (unhid ho) (m := nz) (by rw [upd_ne nzn]; exact kz)
      have hll : (wb.map by1).length = wb.length := List.length_map _
      rw [hll] at *
      have hfin : ∀ s : List Int, ∃ H2, Heap.le H2 (upd (upd Hr n4 (.r 52 11 1 [[.c (.int .u64 R1.epoch), .c (.int .u64 R1.counter), .c (.int .i64 R1.tasks), .c (.int .i64 R1.attempt), .c (.int .i64 R1.span), y, .c (.int .u64 0), .c (.bool R2), .c (.slice none 0 0), .c (.slice none 0 0), .c (.int .i64 R3)]])) nz (.r 5 1 cap (s.map by1))) ∧ OwnP y R1.pend H2 H := fun s => by
        have t5 := (OwnP_loc y R1.pend).turn t4 (m := nz) (by rw [upd_ne nz4, upd_ne nzn]; exact kz) (.r 5 1 cap (s.map by1))
        obtain ⟨H2, l1, l2⟩ := (OwnP_loc y R1.pend).cut t5 (K := H) (fun q b hq => by
          have hG := unhid hle q b hq
          have c1 : q ≠ n4 := by rintro rfl; rw [gn4] at hq; cases hq
          have c2 : q ≠ n := by rintro rfl; rw [hgn] at hG; cases hG
          have c3 : q ≠ nz := by rintro rfl; rw [hnz] at hG; cases hG
          rw [upd_ne c3, upd_ne c1, upd_ne c2, upd_ne c3]; exact hG)
        exact ⟨H2, l1, l2⟩
      have hbI : (wb.length : Int) ≤ 3001 := by omega
      clear t4 ho hoz hz6 o4 k4 e4 g4 gn4 hle kz hn
      replace hfin := Lib.hid hfin
      refine AW_loopX (σ := List Int) wb.length (fun _ s => s.length = wb.length) (fun k s => [(4, .p n4 11 0 0), (6, .p n 2 0 0), (65, ci wb.length), (66, ci k)]) (fun _ s => upd (upd Hr n4 (.r 52 11 1 [[.c (.int .u64 R1.epoch), .c (.int .u64 R1.counter), .c (.int .i64 R1.tasks), .c (.int .i64 R1.attempt), .c (.int .i64 R1.span), y, .c (.int .u64 0), .c (.bool R2), .c (.slice none 0 0), .c (.slice none 0 0), .c (.int .i64 R3)]])) nz (.r 5 1 cap (s.map by1))) wb rfl ?_ ?_ ?_ ?_
      · (first | trivial | (simp only [push_cast, seval, *]; done))
      · intro q b hq
        by_cases c1 : q = nz
        · subst c1; rw [upd_same] at hq; rw [upd_ne nz4]; rw [jz]; exact hq
        · rw [upd_ne c1] at hq; exact hq
      · rintro k s hkl hs
        have hkI : (k : Int) < wb.length := by omega
        have hkw : IntKind.i64.wrap ((k : Int) + 1) = (k : Int) + 1 := wrap_i64 (by omega) (by omega)
        obtain ⟨v, hv⟩ : ∃ v, s[k]? = some v := ⟨_, List.getElem?_eq_getElem (by omega)⟩
        have hrv : (s.map by1)[k]? = some [.c (.int .u8 v)] := by rw [List.getElem?_map, hv]; rfl
        have hsl : (s.map by1).length = wb.length := by rw [List.length_map]; exact hs
        have hset : ∀ u, (s.map by1).set k [.c (.int .u8 u)] = (s.set k u).map by1 := fun u => by rw [List.map_set]; rfl
        generalize hrr : s.map by1 = RR at *
        replace hrr := Lib.hid hrr
        replace hset := Lib.hid hset
        replace hs := Lib.hid hs
        clear hv
        repeat' (first
    | refine AW_seq_kn fun K hK => ?_
    | refine AW_block ?_
    | ((first
      | refine AW_region E0 ?_ | refine AW_ret ?_ | refine AW_exit ?_ | refine AW_skip ?_ | unfold retQ); try simp only [push_cast, seval, *])
    | (apply AW_cond; (case hc => (simp only [push_cast, seval]; rfl)); all_goals (intro hc; first | (exfalso; simp only [push_cast, seval, *] at hc; done) | (exact absurd hc (by decide)) | ((try first | rw [Bool.not_true] at hc | rw [Bool.not_false] at hc); first | (with_reducible replace hc := tTT hc); clear hc | (with_reducible replace hc := tFF hc); clear hc | (have hp := hc; try simp only [decide_eq_true_eq, decide_eq_false_iff_not, bA, bB, bC, bD, bE, bF, bG, bH] at hp))))
    | (refine Kn.go hK ?_; clear hK K)
    | refine Kn.go (by assumption) ?_
    | (intro n hn; (try simp only [upd_none2, join_none_iff, ite_none, ne_eq] at hn); (try simp only [push_cast, seval, *]))
    | (intro hc)
    | fail)
        refine ⟨s.set k (bits .xor .u8 v 238), by simp [unhid hs], by (first | trivial | (simp only [push_cast, seval, *]; done)), ?_⟩
        rw [← unhid hset]
        exact Heap.le_refl _
      · rintro s hs
        obtain ⟨H2, l1, l2⟩ := unhid hfin s
        replace l1 := Lib.hid l1
        replace l2 := Lib.hid l2
        generalize s.map by1 = RR at *
        clear hfin
        repeat' (first
    | refine AW_seq_kn fun K hK => ?_
    | refine AW_block ?_
    | ((first
      | refine AW_region E0 ?_ | refine AW_ret ?_ | refine AW_exit ?_ | refine AW_skip ?_ | unfold retQ); try simp only [push_cast, seval, *])
    | (apply AW_cond; (case hc => (simp only [push_cast, seval]; rfl)); all_goals (intro hc; first | (exfalso; simp only [push_cast, seval, *] at hc; done) | (exact absurd hc (by decide)) | ((try first | rw [Bool.not_true] at hc | rw [Bool.not_false] at hc); first | (with_reducible replace hc := tTT hc); clear hc | (with_reducible replace hc := tFF hc); clear hc | (have hp := hc; try simp only [decide_eq_true_eq, decide_eq_false_iff_not, bA, bB, bC, bD, bE, bF, bG, bH] at hp))))
    | (refine Kn.go hK ?_; clear hK K)
    | refine Kn.go (by assumption) ?_
    | (intro n hn; (try simp only [upd_none2, join_none_iff, ite_none, ne_eq] at hn); (try simp only [push_cast, seval, *]))
    | (intro hc)
    | fail)
        exact ⟨_, H2, Weak.less (by rw [upd_self (by rw [upd_ne nz4', upd_same])]; exact unhid l1), y, rfl, unhid l2⟩
theorem run_o (o : Op22) (hob : o.ack.bytes.length ≤ maxLen) (c : Cd) (hl : c.pend.length ≤ maxLen) (hfit : c.fits) (H : Heap) :
    ACall Try.prog 18 [.g (Op22.av o), .g (Cd.av c)] H fun r H' => ∃ y ya g, r = .g ((runS o c).cl y ya g) ∧ ownT (runS o c) y ya g H' H := by
  obtain ⟨h0, h10⟩ := kdS_bd o
  unfold runS ownT
  by_cases h2 : kdS o < 2
  · simp only [if_pos h2]
    refine (runTrig_o o c hl hfit (by omega) H).mono ?_
    rintro r H' ⟨y, rfl, ho⟩
    exact ⟨y, _, _, rfl, H, H, ho, OwnL.nil _ _ _, OwnSl.nil⟩
  simp only [if_neg h2]
  by_cases h5 : kdS o < 5
  · simp only [if_pos h5]
    refine (runAck_o o hob c hl hfit (by omega) H).mono ?_
    rintro r H' ⟨y, rfl, ho⟩
    exact ⟨y, _, _, rfl, H, H, ho, OwnL.nil _ _ _, OwnSl.nil⟩
  simp only [if_neg h5]
  by_cases h6 : kdS o < 6
  · simp only [if_pos h6]
    refine (runDec_o o c hl hfit (by omega) H).mono ?_
    rintro r H' ⟨y, rfl, ho⟩
    exact ⟨y, _, _, rfl, H, H, ho, OwnL.nil _ _ _, OwnSl.nil⟩
  simp only [if_neg h6]
  by_cases h7 : kdS o < 7
  · simp only [if_pos h7]
    refine (runTick_o o c hl hfit (by omega) H).mono ?_
    rintro r H' ⟨y, g, H1, rfl, ho, hg⟩
    exact ⟨y, _, g, rfl, H1, H, ho, hg, OwnSl.nil⟩
  simp only [if_neg h7]
  by_cases h9 : kdS o < 9
  · simp only [if_pos h9]
    refine (runComp_o o c hl hfit (by omega) H).mono ?_
    rintro r H' ⟨y, ya, g, H1, H2, rfl, ho, hg, ha⟩
    exact ⟨y, ya, g, rfl, H1, H2, ho, hg, ha⟩
  simp only [if_neg h9]
  refine (runRest_o o c hl hfit (by omega) H).mono ?_
  rintro r H' ⟨y, g, H1, rfl, ho, hg⟩
  exact ⟨y, _, g, rfl, H1, H, ho, hg, OwnSl.nil⟩
end Go.Proofs.Ytlbdpnlmdcajbaa
