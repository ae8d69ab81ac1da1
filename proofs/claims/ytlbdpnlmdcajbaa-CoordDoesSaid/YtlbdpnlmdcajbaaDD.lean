/- The document's Decline. -/
import Derived.Test.YtlbdpnlmdcajbaaDC
import Derived.Test.YtlbdpnlmdcajbaaR
namespace Go.Proofs.Ytlbdpnlmdcajbaa
open Go.RowKit
open Nat renaming reduceEqDiff → nA, reduceLT → nB, reduceLeDiff → nC, reduceAdd → nD, reduceMul → nE, reduceSub → nF, reduceBEq → nG
open Int renaming reduceToNat → iA, reduceLT → iB, reduceLE → iC, reduceEq → iD
open Bool renaming and_eq_true → bA, or_eq_true → bB, or_eq_false_iff → bC, and_eq_false_iff → bD, not_eq_true' → bE, not_eq_false' → bF, not_true → bG, not_false → bH
set_option linter.all false
set_option maxHeartbeats 4000000
attribute [local irreducible] AW Does ACall tE tS tB tZ
def dLDD0 : List En := [(0, false, []), (1, false, []), (2, false, []), (3, false, []), (4, false, []), (5, false, []), (6, false, []), (7, false, []), (8, false, []), (9, false, []), (10, false, []), (11, false, []), (12, false, [])]
def dADD0 : List (List Nat) := [[], [0], [], [], [0, 1, 2, 3], [], [5], [], [7], [5, 6, 7, 8], [0, 1, 2, 3, 4, 5, 6, 7, 8, 9], [0, 1, 2, 3, 4, 5, 6, 7, 8, 9, 10], [0, 1, 2, 3, 4, 5, 6, 7, 8, 9, 10, 11]]
attribute [push_cast] dLDD0
set_option maxRecDepth 5000

theorem le_both {A B : Heap} {q : Nat} {b : Blk} (h : Heap.le A B) : Heap.le (upd A q b) (upd B q b) := fun p x hp => by
  by_cases e : p = q
  · subst e; rw [upd_same] at hp ⊢; exact hp
  · rw [upd_ne e] at hp ⊢; exact h p x hp
theorem ownB_c2 {c : Cd} {x : AV} {X H : Heap} {a : Value} (h : OwnB x 61 4 (c.pend.map Pd.av) X H) : Weak (.t [.g (c.cl x), .c a]) X (.t [.g c.av, .c a]) H :=
  (OwnB.wp h).weak fun F F' hF hi => Imp.t (Imps.cons (Imp_cl hF c hi rfl) (fun h => by cases h) (Imps.cons (Imp.refl hF _) id Imps.nil))
theorem refDecline_p (c : Cd) (hok : cdOk c = true) (nm at_ : Int) : Pure Try.prog 43 [.g (Cd.av c), .c (.int .u64 nm), .c (.int .i64 at_)] (.t [.g (if oursE c nm at_ = 0 then decC c nm else zeroC).av, .c (.int .i64 (oursE c nm at_))]) := by
  intro H
  have hcb := Copy_b c (small_of hok)
  have hl2 := (cdOk_bd hok).1
  have hat := refAt_p c (by unfold maxLen; omega) nm at_
  have ho := fun h => oursE_at (c := c) (n := nm) (at_ := at_) h
  have hC : decC c nm = { c with pend := c.pend.eraseIdx (fndS c.pend nm).toNat } := rfl
  rw [hC]
  generalize pdAt c nm = P at *
  generalize oursE c nm at_ = E at *
  generalize fndS c.pend nm = I at *
  obtain ⟨c0, c1, c2, c3, c4, l⟩ := c
  simp only at hl2 ho hcb ⊢
  have hav : ∀ a0 a1 a2 a3 a4 a5, Cd.av ⟨a0, a1, a2, a3, a4, a5⟩ = [.c (.int .u64 a0), .c (.int .u64 a1), .c (.int .i64 a2), .c (.int .i64 a3), .c (.int .i64 a4), .l 4 (a5.map Pd.av)] := fun _ _ _ _ _ _ => rfl
  simp only [hav] at hcb hat ⊢
  simp only [Cd.cl] at hcb
  have hz2 := zc2 H
  rw [zC_av] at hz2
  replace hz2 := Lib.hid hz2
  replace hcb := Lib.hid hcb
  clear hC hok hav
  by_cases hE : E = 0
  rotate_left
  · rw [if_neg hE] at hat
    rw [if_neg hE]
    clear ho
    have hEF := eq_false hE
    refine ACall_of' Try.func43 rfl (Ent_of Try.func43 (by kernel_rfl) rfl) (by simp [Try.ntmps43]) ?_; simp only [Try.ntmps43, Try.results43]
    repeat' (first
    | refine AW_seq_kn fun K hK => ?_
    | refine AW_block ?_
    | (refine does_call rfl rfl ?_; simp only [push_cast, seval, *]; refine ACall.monoP (hat _) ?_; (try simp only [push_cast, seval, *]))
    | ((first
      | refine AW_region_draw (id := 5) E0 (fun f => [].contains f) dLDD0 dADD0 mixed (by kernel_rfl) ?_
      | refine AW_region E0 ?_ | refine AW_ret ?_ | refine AW_exit ?_ | refine AW_skip ?_ | unfold retQ); try simp only [push_cast, seval, *])
    | (apply AW_cond; (case hc => (simp only [push_cast, seval]; rfl)); all_goals (intro hc; first | (exfalso; simp only [push_cast, seval, *] at hc; done) | (exact absurd hc (by decide)) | ((try first | rw [Bool.not_true] at hc | rw [Bool.not_false] at hc); first | (with_reducible replace hc := tTT hc); clear hc | (with_reducible replace hc := tFF hc); clear hc | (have hp := hc; try simp only [decide_eq_true_eq, decide_eq_false_iff_not, bA, bB, bC, bD, bE, bF, bG, bH] at hp))))
    | (refine Kn.go hK ?_; clear hK K)
    | refine Kn.go (by assumption) ?_
    | (intro n hn; (try simp only [upd_none2, join_none_iff, ite_none, ne_eq] at hn); (try simp only [push_cast, seval, *]))
    | (intro hc)
    | fail)
    exact ⟨_, H, Weak.trans (Weak.less (by (repeat' (first | exact Heap.le_refl _ | refine hle_upd2 ?_ _ _ | (refine Heap.le_new ?_ ?_; rotate_left 1; focus (first | assumption | (simp only [upd_none2, upd_get, ne_eq, push_cast, seval, *]; done) | (simp [upd_get, *]; done))))))) (unhid hz2 _), rfl, rfl⟩
  subst hE
  rw [if_pos rfl] at hat
  rw [if_pos rfl]
  obtain ⟨i, rfl, hp⟩ := ho rfl
  clear ho
  have hil := (List.getElem?_eq_some_iff.1 hp).1
  rw [Int.toNat_natCast]
  have her : l.eraseIdx i = l.take i ++ l.drop (i + 1) := List.eraseIdx_eq_take_drop_succ l i
  rw [her]
  clear her
  obtain ⟨l', hl'⟩ : ∃ l', l' = l.take i ++ l.drop (i + 1) := ⟨_, rfl⟩
  rw [← hl']
  replace hl' := Lib.hid hl'
  have hE4 := tE28
  have hS4 := tS61
  have hB4 := tB61
  have hZ4 := tZ61
  obtain ⟨N, hN⟩ : ∃ N, N = l.length := ⟨_, rfl⟩
  have hlm : (l.map Pd.av).length = N := by rw [List.length_map, hN]
  rw [← hN] at hil hl2
  clear hp hz2
  refine ACall_of' Try.func43 rfl (Ent_of Try.func43 (by kernel_rfl) rfl) (by simp [Try.ntmps43]) ?_; simp only [Try.ntmps43, Try.results43]
  repeat' (first
    | refine AW_seq_kn fun K hK => ?_
    | refine AW_block ?_
    | (refine does_call rfl rfl ?_; simp only [push_cast, seval, *]; refine ACall.monoP (hat _) ?_; (try simp only [push_cast, seval, *]))
    | ((first
      | refine AW_region_draw (id := 5) E0 (fun f => [].contains f) dLDD0 dADD0 mixed (by kernel_rfl) ?_
      | refine AW_region E0 ?_ | refine AW_ret ?_ | refine AW_exit ?_ | refine AW_skip ?_ | unfold retQ); try simp only [push_cast, seval, *])
    | (apply AW_cond; (case hc => (simp only [push_cast, seval]; rfl)); all_goals (intro hc; first | (exfalso; simp only [push_cast, seval, *] at hc; done) | (exact absurd hc (by decide)) | ((try first | rw [Bool.not_true] at hc | rw [Bool.not_false] at hc); first | (with_reducible replace hc := tTT hc); clear hc | (with_reducible replace hc := tFF hc); clear hc | (have hp := hc; try simp only [decide_eq_true_eq, decide_eq_false_iff_not, bA, bB, bC, bD, bE, bF, bG, bH] at hp))))
    | (refine Kn.go hK ?_; clear hK K)
    | refine Kn.go (by assumption) ?_
    | (intro n hn; (try simp only [upd_none2, join_none_iff, ite_none, ne_eq] at hn); (try simp only [push_cast, seval, *]))
    | (intro hc)
    | fail)
  rename_i n1 h1
  generalize n = n2 at *
  have n12 : ¬ n1 = n2 := hn.1.2
  have n21 : ¬ n2 = n1 := hn.1.1
  have e1 : H n1 = none := h1
  have e2 : H n2 = none := hn.2
  obtain ⟨G, hG⟩ : ∃ G : Heap, G = upd (upd H n1 (.r 30 6 1 [[.c (.int .u64 c0), .c (.int .u64 c1), .c (.int .i64 c2), .c (.int .i64 c3), .c (.int .i64 c4), .l 4 (l.map Pd.av)]])) n2 (.r 30 6 1 [zcl]) := ⟨_, rfl⟩
  have g1 : G n1 = some (.r 30 6 1 [[.c (.int .u64 c0), .c (.int .u64 c1), .c (.int .i64 c2), .c (.int .i64 c3), .c (.int .i64 c4), .l 4 (l.map Pd.av)]]) := by rw [hG, upd_ne n12, upd_same]
  have g2 : G n2 = some (.r 30 6 1 [zcl]) := by rw [hG, upd_same]
  have hle : Heap.le H G := by rw [hG]; (repeat' (first | exact Heap.le_refl _ | refine hle_upd2 ?_ _ _ | (refine Heap.le_new ?_ ?_; rotate_left 1; focus (first | assumption | (simp only [upd_none2, upd_get, ne_eq, push_cast, seval, *]; done) | (simp [upd_get, *]; done)))))
  rw [show upd (upd H n1 (.r 30 6 1 [[.c (.int .u64 c0), .c (.int .u64 c1), .c (.int .i64 c2), .c (.int .i64 c3), .c (.int .i64 c4), .l 4 (l.map Pd.av)]])) n2 (.r 30 6 1 [zcl]) = G from hG.symm]
  clear hG h1 hn hat
  refine does_call rfl rfl ?_
  simp only [push_cast, seval, *]
  refine ACall.mono (unhid hcb G) ?_
  rintro _ S ⟨y, rfl, ho⟩
  have s1 := ho.get g1
  have s2 := ho.get g2
  clear hcb
  rcases ho.split with ⟨ad, -, e, -⟩ | ⟨np, cap, rfl, rfl, hnp⟩
  · rw [e] at hlm; simp at hlm; omega
  rw [hlm]
  obtain ⟨R, hR⟩ : ∃ R, R = l.map Pd.av := ⟨_, rfl⟩
  rw [← hR] at hlm g1 s1 s2 ⊢
  have m1 : ¬ n1 = np := by rintro rfl; rw [hnp] at g1; cases g1
  have m2 : ¬ n2 = np := by rintro rfl; rw [hnp] at g2; cases g2
  have m1' : ¬ np = n1 := fun h => m1 h.symm
  have m2' : ¬ np = n2 := fun h => m2 h.symm
  have snp := upd_same G np (.r 61 4 cap R)
  replace hle := Lib.hid hle
  replace e1 := Lib.hid e1
  replace e2 := Lib.hid e2
  replace hR := Lib.hid hR
  replace hN := Lib.hid hN
  clear ho
  (try simp only [push_cast, seval, *])
  repeat' (first
    | (refine AW_atR (id := 5) ?_)
    | refine AW_seq_kn fun K hK => ?_
    | refine AW_block ?_
    | ((first
      | refine AW_region_draw (id := 5) E0 (fun f => [].contains f) dLDD0 dADD0 mixed (by kernel_rfl) ?_
      | refine AW_region E0 ?_ | refine AW_ret ?_ | refine AW_exit ?_ | refine AW_skip ?_ | unfold retQ); try simp only [push_cast, seval, *])
    | (apply AW_cond; (case hc => (simp only [push_cast, seval]; rfl)); all_goals (intro hc; first | (exfalso; simp only [push_cast, seval, *] at hc; done) | (exact absurd hc (by decide)) | ((try first | rw [Bool.not_true] at hc | rw [Bool.not_false] at hc); first | (with_reducible replace hc := tTT hc); clear hc | (with_reducible replace hc := tFF hc); clear hc | (have hp := hc; try simp only [decide_eq_true_eq, decide_eq_false_iff_not, bA, bB, bC, bD, bE, bF, bG, bH] at hp))))
    | (refine Kn.go hK ?_; clear hK K)
    | refine Kn.go (by assumption) ?_
    | (intro n hn; (try simp only [upd_none2, join_none_iff, ite_none, ne_eq] at hn); (try simp only [push_cast, seval, *]))
    | (intro hc)
    | fail)
  refine ⟨?_⟩
  refine AW_blkcap (n := np) (show _ = some (Blk.r 61 4 cap R) by rw [upd_ne m1', upd_same]) fun hcap => ?_
  rw [hlm] at hcap
  have hx1 : (i : Int) ≤ cap := by omega
  have hx2 : (0 : Int) ≤ i + 1 := by omega
  have hx3 : (i : Int) + 1 ≤ N := by omega
  have hx4 : (N : Int) ≤ cap := by omega
  have hx5 : ((i : Int) + 1).toNat = i + 1 := by omega
  have hx6 : IntKind.i64.wrap ((i : Int) + 1) = (i : Int) + 1 := wrap_i64 (by omega) (by omega)
  have hx7 : (0 : Int) ≤ i := by omega
  repeat' (first
    | refine AW_seq_kn fun K hK => ?_
    | refine AW_block ?_
    | ((first
      | refine AW_region_draw (id := 5) E0 (fun f => [].contains f) dLDD0 dADD0 mixed (by kernel_rfl) ?_
      | refine AW_region E0 ?_ | refine AW_ret ?_ | refine AW_exit ?_ | refine AW_skip ?_ | unfold retQ); try simp only [push_cast, seval, *])
    | (apply AW_cond; (case hc => (simp only [push_cast, seval]; rfl)); all_goals (intro hc; first | (exfalso; simp only [push_cast, seval, *] at hc; done) | (exact absurd hc (by decide)) | ((try first | rw [Bool.not_true] at hc | rw [Bool.not_false] at hc); first | (with_reducible replace hc := tTT hc); clear hc | (with_reducible replace hc := tFF hc); clear hc | (have hp := hc; try simp only [decide_eq_true_eq, decide_eq_false_iff_not, bA, bB, bC, bD, bE, bF, bG, bH] at hp))))
    | (refine Kn.go hK ?_; clear hK K)
    | refine Kn.go (by assumption) ?_
    | (intro n hn; (try simp only [upd_none2, join_none_iff, ite_none, ne_eq] at hn); (try simp only [push_cast, seval, *]))
    | (intro hc)
    | fail)
  have hHnp : H np = none := le_no (unhid hle) hnp
  have hrt : R.take i = (l.take i).map Pd.av := by rw [unhid hR, List.map_take]
  have hN' := unhid hN
  have hR' := unhid hR
  replace hrt := Lib.hid hrt
  replace hR' := Lib.hid hR'
  clear hR
  refine does_appCut (n := np) (sz := 4) (i := i) (c := i) (j := i + 1) (m := N - (i + 1)) (c2 := cap - (i + 1)) (cap := cap) (rows := R) rfl (by simp only [push_cast, seval, *]) (by simp only [push_cast, seval, *]) (by rw [upd_ne m1', upd_same]) (by omega) (by omega) (by omega) hE4 hS4 hB4 hZ4 rfl (by decide) (by unfold maxLen; omega) (by omega) (fun hm => ?_) (fun hm q GC hqn hq1 hq2 => ?_)
  · have hdr : l.drop (i + 1) = [] := List.drop_of_length_le (by omega)
    have hlt : l' = l.take i := by rw [unhid hl', hdr, List.append_nil]
    have hlr : (l'.map Pd.av).length = i := by rw [hlt]; simp; omega
    have hrt2 := unhid hrt
    rw [← hlt] at hrt2
    have tB : OwnB (.s np 4 0 i i) 61 4 (l'.map Pd.av) (upd H np (.r 61 4 cap R)) H :=
      .inr ⟨np, i, cap, R, by rw [hlr], ⟨by rw [hlr]; exact hrt2, by rw [hlr]; exact Nat.le_refl _⟩, by rw [hlr]; omega, hHnp, rfl⟩
    replace tB := Lib.hid tB
    clear hm hdr hlr hlt hrt2
    replace hN' := Lib.hid hN'
    clear hN
    (try simp only [push_cast, seval, *])
    repeat' (first
    | refine AW_seq_kn fun K hK => ?_
    | refine AW_block ?_
    | ((first
      | refine AW_region_draw (id := 5) E0 (fun f => [].contains f) dLDD0 dADD0 mixed (by kernel_rfl) ?_
      | refine AW_region E0 ?_ | refine AW_ret ?_ | refine AW_exit ?_ | refine AW_skip ?_ | unfold retQ); try simp only [push_cast, seval, *])
    | (apply AW_cond; (case hc => (simp only [push_cast, seval]; rfl)); all_goals (intro hc; first | (exfalso; simp only [push_cast, seval, *] at hc; done) | (exact absurd hc (by decide)) | ((try first | rw [Bool.not_true] at hc | rw [Bool.not_false] at hc); first | (with_reducible replace hc := tTT hc); clear hc | (with_reducible replace hc := tFF hc); clear hc | (have hp := hc; try simp only [decide_eq_true_eq, decide_eq_false_iff_not, bA, bB, bC, bD, bE, bF, bG, bH] at hp))))
    | (refine Kn.go hK ?_; clear hK K)
    | refine Kn.go (by assumption) ?_
    | (intro n hn; (try simp only [upd_none2, join_none_iff, ite_none, ne_eq] at hn); (try simp only [push_cast, seval, *]))
    | (intro hc)
    | fail)
    refine ⟨_, H, Weak.trans (Weak.less (H' := upd H np (.r 61 4 cap R)) ?_) (ownB_c2 (c := ⟨c0, c1, c2, c3, c4, l'⟩) (unhid tB)), rfl, rfl⟩
    refine le_skip ?_ (by rw [upd_ne m2]; exact unhid e2)
    (try rw [upd_upd])
    exact le_skip (le_both (unhid hle)) (by rw [upd_ne m1]; exact unhid e1)
  · obtain ⟨m, hmm⟩ : ∃ m, m = N - (i + 1) := ⟨_, rfl⟩
    rw [← hmm] at hm hq1 ⊢
    have hq2n : ¬ q = n1 := fun h => by rw [h, upd_same] at hqn; cases hqn
    have hn2q : ¬ n1 = q := fun h => hq2n h.symm
    rw [upd_ne hq2n] at hqn
    have hqp : ¬ q = np := fun h => by rw [h, upd_same] at hqn; cases hqn
    rw [upd_ne hqp] at hqn
    have hq3 : ¬ q = n2 := fun h => by rw [h, g2] at hqn; cases hqn
    have hq3' : ¬ n2 = q := fun h => hq3 h.symm
    have hHq : H q = none := le_no (unhid hle) hqn
    have hrd : (R.drop (i + 1)).take m = (l.drop (i + 1)).map Pd.av := by
      rw [unhid hR', ← List.map_drop, List.take_of_length_le (by simp; omega)]
    have hlr : (l'.map Pd.av).length = i + m := by rw [unhid hl']; simp; omega
    have hls : (R.take i ++ (R.drop (i + 1)).take m) = l'.map Pd.av := by rw [unhid hl', unhid hrt, hrd, List.map_append]
    rw [hls]
    have tB : OwnB (.s q 4 0 (i + m) GC) 61 4 (l'.map Pd.av) (upd H q (.r 61 4 GC (l'.map Pd.av))) H :=
      .inr ⟨q, GC, GC, _, by rw [hlr], ⟨List.take_length, by rw [hlr]; exact hq1⟩, Nat.le_refl _, hHq, rfl⟩
    obtain ⟨bq, hbq⟩ : ∃ bq : Blk, bq = .r 61 4 GC (l'.map Pd.av) := ⟨_, rfl⟩
    rw [← hbq] at tB ⊢
    replace tB := Lib.hid tB
    replace hbq := Lib.hid hbq
    replace hmm := Lib.hid hmm
    clear hm hlr hls hrd
    replace hN' := Lib.hid hN'
    clear hN
    (try simp only [push_cast, seval, *])
    repeat' (first
    | refine AW_seq_kn fun K hK => ?_
    | refine AW_block ?_
    | ((first
      | refine AW_region_draw (id := 5) E0 (fun f => [].contains f) dLDD0 dADD0 mixed (by kernel_rfl) ?_
      | refine AW_region E0 ?_ | refine AW_ret ?_ | refine AW_exit ?_ | refine AW_skip ?_ | unfold retQ); try simp only [push_cast, seval, *])
    | (apply AW_cond; (case hc => (simp only [push_cast, seval]; rfl)); all_goals (intro hc; first | (exfalso; simp only [push_cast, seval, *] at hc; done) | (exact absurd hc (by decide)) | ((try first | rw [Bool.not_true] at hc | rw [Bool.not_false] at hc); first | (with_reducible replace hc := tTT hc); clear hc | (with_reducible replace hc := tFF hc); clear hc | (have hp := hc; try simp only [decide_eq_true_eq, decide_eq_false_iff_not, bA, bB, bC, bD, bE, bF, bG, bH] at hp))))
    | (refine Kn.go hK ?_; clear hK K)
    | refine Kn.go (by assumption) ?_
    | (intro n hn; (try simp only [upd_none2, join_none_iff, ite_none, ne_eq] at hn); (try simp only [push_cast, seval, *]))
    | (intro hc)
    | fail)
    refine ⟨_, H, Weak.trans (Weak.less (H' := upd H q bq) ?_) (ownB_c2 (c := ⟨c0, c1, c2, c3, c4, l'⟩) (unhid tB)), rfl, rfl⟩
    refine le_skip ?_ (by rw [upd_ne hq3']; exact unhid e2)
    refine le_skip ?_ (by rw [upd_ne hn2q]; exact unhid e1)
    exact le_both (le_skip (le_skip (unhid hle) hHnp) (unhid e1))
end Go.Proofs.Ytlbdpnlmdcajbaa
