/- TxlogAborts. -/
import Derived.Test.YtdeckjoeggmagaaW
import Derived.Test.YtdeckjoeggmagaaWB
namespace Go.Proofs.Ytdeckjoeggmagaa
open Go.RowKit
open Nat renaming reduceEqDiff → nA, reduceLT → nB, reduceLeDiff → nC, reduceAdd → nD, reduceMul → nE, reduceSub → nF, reduceBEq → nG
open Int renaming reduceToNat → iA, reduceLT → iB, reduceLE → iC, reduceEq → iD
open Bool renaming and_eq_true → bA, or_eq_true → bB, or_eq_false_iff → bC, and_eq_false_iff → bD, not_eq_true' → bE, not_eq_false' → bF, not_true → bG, not_false → bH
set_option linter.all false
set_option maxHeartbeats 4000000
attribute [local irreducible] AW Does ACall tE tS tB tZ
def dLXA0 : List En := [(0, true, []), (1, false, []), (2, false, [0, 8]), (3, false, [8]), (4, false, []), (5, false, []), (6, false, []), (7, false, []), (8, false, []), (9, false, []), (10, false, []), (11, false, [])]
def dAXA0 : List (List Nat) := [[], [], [1], [0, 1, 2], [0, 1, 2, 3], [0, 1, 2, 3, 4], [0, 1, 2, 3, 4], [0, 1, 2, 3, 4], [], [0, 1, 2, 3, 4, 5, 8], [0, 1, 2, 3, 4, 5, 6, 8, 9], [0, 1, 2, 3, 4, 5, 6, 7, 8, 9, 10]]
attribute [push_cast] dLXA0
def dLXA1 : List En := [(0, false, []), (2, false, []), (3, true, []), (1, false, [3]), (4, false, []), (5, false, [])]
def dAXA1 : List (List Nat) := [[], [0], [], [2], [0, 1, 2, 3], [0, 1, 2, 3, 4]]
attribute [push_cast] dLXA1
set_option maxRecDepth 5000

theorem abort_facts {l : Lg} (h : LOk l) (ns : List Nm) {x : Tx} (hx : x ∈ l.txs) : (x.nm ∈ ns → stateS (abortL l ns) x.nm = x.st) ∧ (¬ x.nm ∈ ns → stateS (abortL l ns) x.nm = 0 ∧ (openR (abortL l ns) x.nm).2 = 0) := by
  have hN := h.abortL ns
  constructor
  · intro hm
    have : x ∈ (abortL l ns).txs := List.mem_filter.2 ⟨hx, by unfold kept; exact decide_eq_true hm⟩
    unfold stateS
    rw [stT_some hN.rise this]
  · intro hm
    have hnot : ¬ x.nm ∈ (abortL l ns).txs.map Tx.nm := fun hc => by
      obtain ⟨y, hy, e⟩ := List.mem_map.1 hc
      have := (List.mem_filter.1 hy).2
      unfold kept at this
      rw [e] at this
      exact hm (of_decide_eq_true this)
    have hd : ¬ x.nm ∈ (abortL l ns).done := h.sep x hx
    constructor
    · unfold stateS
      rw [stT_none hnot]
      simp only
      rw [if_neg hd]
    · have hlt : (abortL l ns).txs.length < l.txs.length := List.length_filter_lt_length_iff_exists.2 ⟨x, hx, by unfold kept; simpa using hm⟩
      have h24 := h.t24
      have hE : openE (abortL l ns) x.nm = 0 := by
        unfold openE
        rw [(atB_not hN.rise).2 hnot, if_neg (by decide), if_neg hd, if_neg (by omega)]
      unfold openR
      rw [hE, wRes_ok ((lgOk_iff _).2 hN) (by simpa using (h.txs x hx).1)]
      rfl
theorem abortR_bad {l : Lg} {ns : List Nm} (h : ¬ (abortR l ns).2.2 = 0) : (abortR l ns).1 = zeroL ∧ (abortR l ns).2.1 = 0 := by
  unfold abortR at h ⊢
  simp only at h ⊢
  refine ⟨wRes_not h, ?_⟩
  rw [if_neg]
  rintro ⟨h1, h2⟩
  rw [wRes_ok h1 h2] at h
  simp at h
theorem abortR_good {l : Lg} {ns : List Nm} (h : (abortR l ns).2.2 = 0) : (abortR l ns).1 = abortL l ns ∧ (abortR l ns).2.1 = ((l.txs.length - (abortL l ns).txs.length : Nat) : Int) ∧ ns.all nmOk = true := by
  unfold abortR at h ⊢
  simp only at h ⊢
  obtain ⟨h1, h2, -, h4⟩ := wRes_zero h
  exact ⟨h4, by rw [if_pos ⟨h1, h2⟩], h2⟩
theorem txlogAborts_a (ops : List Op16) (hol : ops.length ≤ maxLen) (hog : ∀ o ∈ ops, o.good) (keep : List Nm) (hkeep : keep.length ≤ maxLen) (H : Heap) :
    ACall Try.prog 10 [.l 6 (ops.map Op16.av), .l 3 (keep.map Nm.av)] H fun r _ => r = .c (.bool true) := by
  have hnm := names_p keep hkeep
  have hl2 : (keep.take 30).length ≤ 30 := by simp; omega
  generalize keep.take 30 = ns at *
  have hwk := wakes16_p
  unfold maxLen at hol
  replace hog := Lib.hid hog
  refine ACall_of' Try.func10 rfl (Ent_of Try.func10 (by kernel_rfl) rfl) (by simp [Try.ntmps10]) ?_; simp only [Try.ntmps10, Try.results10]
  repeat' (first
    | (refine AW_atB (id := 4) ?_)
    | refine AW_seq_kn fun K hK => ?_
    | refine AW_block ?_
    | (refine does_call rfl rfl ?_; simp only [push_cast, seval, *]; refine ACall.monoP (hwk _) ?_; (try simp only [push_cast, seval, *]))
    | (refine does_call rfl rfl ?_; simp only [push_cast, seval, *]; refine ACall.monoP (eqRc_p _ _ (by assumption) (by assumption) _) ?_; (try simp only [push_cast, seval, *]))
    | (refine does_call rfl rfl ?_; simp only [push_cast, seval, *]; refine ACall.monoP (eqNm_p _ _ (by assumption) (by assumption) _) ?_; (try simp only [push_cast, seval, *]))
    | ((first
      | refine AW_region_draw (id := 12) E0 (fun f => [].contains f) dLXA0 dAXA0 mixed (by kernel_rfl) ?_
      | refine AW_region_draw (id := 20) E0 (fun f => [].contains f) dLXA1 dAXA1 mixed (by kernel_rfl) ?_
      | refine AW_region E0 ?_ | refine AW_ret ?_ | refine AW_exit ?_ | refine AW_skip ?_ | unfold retQ); try simp only [push_cast, seval, *])
    | ((first | (apply AW_cond; (case hc => (simp only [push_cast, seval]; rfl))) | (apply ER_guard; (case hb => (simp only [push_cast, seval]; rfl)))); all_goals ((intro hc; first | (exfalso; simp only [push_cast, seval, *] at hc; done) | (exact absurd hc (by decide)) | ((try first | rw [Bool.not_true] at hc | rw [Bool.not_false] at hc); first | (with_reducible replace hc := tTT hc); clear hc | (with_reducible replace hc := tFF hc); clear hc | (have hp := hc; try simp only [decide_eq_true_eq, decide_eq_false_iff_not, bA, bB, bC, bD, bE, bF, bG, bH] at hp))) <;> try simp only [push_cast, seval, *]))
    | (refine Kn.go hK ?_; clear hK K)
    | refine Kn.go (by assumption) ?_
    | (intro n hn; (try simp only [upd_none2, join_none_iff, ite_none, ne_eq] at hn); (try simp only [push_cast, seval, *]))
    | (intro hc)
    | (apply ER_blk; (case hp => rfl); (case hb => (simp only [push_cast, seval]; rfl)); (case hd => (simp only [push_cast, seval]; done)); (case h => (intro hc; simp only [push_cast, seval, *]; rfl)); simp only [push_cast, seval, *])
    | fail)
  refine ⟨?_⟩
  generalize n = n5 at *
  clear hwk
  refine AW_zero (upd_same _ _ _) ?_
  rw [upd_upd]
  refine AW_seqX (σ := Lg) (fun s => LOk s) (fun s => [(1, .l 3 (keep.map Nm.av)), (5, .p n5 3 0 0)]) (fun s => upd H n5 (.r 47 3 1 [Lg.av s])) ?_ ?_
  · repeat' (first
    | refine AW_seq_kn fun K hK => ?_
    | refine AW_block ?_
    | (refine does_call rfl rfl ?_; simp only [push_cast, seval, *]; refine ACall.monoP (eqRc_p _ _ (by assumption) (by assumption) _) ?_; (try simp only [push_cast, seval, *]))
    | (refine does_call rfl rfl ?_; simp only [push_cast, seval, *]; refine ACall.monoP (eqNm_p _ _ (by assumption) (by assumption) _) ?_; (try simp only [push_cast, seval, *]))
    | ((first
      | refine AW_region_draw (id := 12) E0 (fun f => [].contains f) dLXA0 dAXA0 mixed (by kernel_rfl) ?_
      | refine AW_region_draw (id := 20) E0 (fun f => [].contains f) dLXA1 dAXA1 mixed (by kernel_rfl) ?_
      | refine AW_region E0 ?_ | refine AW_ret ?_ | refine AW_exit ?_ | refine AW_skip ?_ | unfold retQ); try simp only [push_cast, seval, *])
    | ((first | (apply AW_cond; (case hc => (simp only [push_cast, seval]; rfl))) | (apply ER_guard; (case hb => (simp only [push_cast, seval]; rfl)))); all_goals ((intro hc; first | (exfalso; simp only [push_cast, seval, *] at hc; done) | (exact absurd hc (by decide)) | ((try first | rw [Bool.not_true] at hc | rw [Bool.not_false] at hc); first | (with_reducible replace hc := tTT hc); clear hc | (with_reducible replace hc := tFF hc); clear hc | (have hp := hc; try simp only [decide_eq_true_eq, decide_eq_false_iff_not, bA, bB, bC, bD, bE, bF, bG, bH] at hp))) <;> try simp only [push_cast, seval, *]))
    | (refine Kn.go hK ?_; clear hK K)
    | refine Kn.go (by assumption) ?_
    | (intro n hn; (try simp only [upd_none2, join_none_iff, ite_none, ne_eq] at hn); (try simp only [push_cast, seval, *]))
    | (intro hc)
    | (apply ER_blk; (case hp => rfl); (case hb => (simp only [push_cast, seval]; rfl)); (case hd => (simp only [push_cast, seval]; done)); (case h => (intro hc; simp only [push_cast, seval, *]; rfl)); simp only [push_cast, seval, *])
    | fail)
    refine AW_loopX (σ := Lg) ops.length (fun k s => LOk s) (fun k s => [(1, .l 3 (keep.map Nm.av)), (5, .p n5 3 0 0), (22, .l 6 (ops.map Op16.av)), (23, ci ops.length), (24, ci k)]) (fun _ s => upd H n5 (.r 47 3 1 [Lg.av s])) zeroL zeroL_ok ?_ ?_ ?_ ?_
    · (first | trivial | (simp only [push_cast, seval, *]; done))
    · exact Heap.le_refl _
    · rintro k s hk hok
      have ho := List.getElem?_eq_getElem (l := ops) hk; generalize ops[k] = o at ho; have hom := List.mem_of_getElem? ho; have hkl : (k : Int) < ops.length := (by omega); have hkw : IntKind.i64.wrap ((k : Int) + 1) = (k : Int) + 1 := wrap_i64 (by omega) (by omega)
      have hgo := unhid hog o hom
      have hfit := fits_of ((lgOk_iff s).2 hok)
      have hru := run_p o ⟨hgo.2.2.1.1, hgo.2.2.2.1⟩ s hfit
      have hst := run_ok hok o
      generalize runR s o = R at *
      obtain ⟨R1, Rg, Re⟩ := R
      obtain ⟨kd, ⟨ns1, ns2, ns3⟩, nl, rl⟩ := o
      have hav : Op16.av ⟨kd, ⟨ns1, ns2, ns3⟩, nl, rl⟩ = [.c (.int .i64 kd), .c (.int .i64 ns1), .c (.int .i64 ns2), .c (.int .i64 ns3), .l 3 (nl.map Nm.av), .l 3 (rl.map Rec.av)] := rfl
      obtain ⟨a, b, c⟩ := s
      obtain ⟨a', b', c'⟩ := R1
      simp only [Lg.av, hav] at hru ⊢
      simp only at hst
      clear hgo hfit hom hnm
      by_cases h30 : (k : Int) = 30
      · have e30 : k = 30 := by omega
        have ho30 := ho
        rw [e30] at ho30
        clear e30
        have hl30 : (30 : Int) < ops.length := by omega
        replace hok := Lib.hid hok
        replace hst := Lib.hid hst
        repeat' (first
    | refine AW_seq_kn fun K hK => ?_
    | refine AW_block ?_
    | (refine does_call rfl rfl ?_; simp only [push_cast, seval, *]; refine ACall.monoP (eqRc_p _ _ (by assumption) (by assumption) _) ?_; (try simp only [push_cast, seval, *]))
    | (refine does_call rfl rfl ?_; simp only [push_cast, seval, *]; refine ACall.monoP (eqNm_p _ _ (by assumption) (by assumption) _) ?_; (try simp only [push_cast, seval, *]))
    | ((first
      | refine AW_region_draw (id := 12) E0 (fun f => [].contains f) dLXA0 dAXA0 mixed (by kernel_rfl) ?_
      | refine AW_region_draw (id := 20) E0 (fun f => [].contains f) dLXA1 dAXA1 mixed (by kernel_rfl) ?_
      | refine AW_region E0 ?_ | refine AW_ret ?_ | refine AW_exit ?_ | refine AW_skip ?_ | unfold retQ); try simp only [push_cast, seval, *])
    | ((first | (apply AW_cond; (case hc => (simp only [push_cast, seval]; rfl))) | (apply ER_guard; (case hb => (simp only [push_cast, seval]; rfl)))); all_goals ((intro hc; first | (exfalso; simp only [push_cast, seval, *] at hc; done) | (exact absurd hc (by decide)) | ((try first | rw [Bool.not_true] at hc | rw [Bool.not_false] at hc); first | (with_reducible replace hc := tTT hc); clear hc | (with_reducible replace hc := tFF hc); clear hc | (have hp := hc; try simp only [decide_eq_true_eq, decide_eq_false_iff_not, bA, bB, bC, bD, bE, bF, bG, bH] at hp))) <;> try simp only [push_cast, seval, *]))
    | (refine Kn.go hK ?_; clear hK K)
    | refine Kn.go (by assumption) ?_
    | (intro n hn; (try simp only [upd_none2, join_none_iff, ite_none, ne_eq] at hn); (try simp only [push_cast, seval, *]))
    | (intro hc)
    | (apply ER_blk; (case hp => rfl); (case hb => (simp only [push_cast, seval]; rfl)); (case hd => (simp only [push_cast, seval]; done)); (case h => (intro hc; simp only [push_cast, seval, *]; rfl)); simp only [push_cast, seval, *])
    | fail)
        exact ⟨⟨a, b, c⟩, unhid hok, by (first | trivial | (simp only [push_cast, seval, *]; done)), (by first | exact Heap.le_refl _ | rfl | ((repeat' (first | exact Heap.le_refl _ | refine hle_upd2 ?_ _ _ | (refine Heap.le_new ?_ ?_; rotate_left 1; focus (first | assumption | (simp only [upd_none2, upd_get, ne_eq, push_cast, seval, *]; done) | (simp [upd_get, *]; done))))); all_goals rfl))⟩
      by_cases he : Re = 0
      · subst he
        have hst2 := hst rfl
        clear hst
        replace hok := Lib.hid hok
        replace hst2 := Lib.hid hst2
        repeat' (first
    | refine AW_seq_kn fun K hK => ?_
    | refine AW_block ?_
    | (refine does_call rfl rfl ?_; simp only [push_cast, seval, *]; refine ACall.monoP (hru _) ?_; (try simp only [push_cast, seval, *]))
    | (refine does_call rfl rfl ?_; simp only [push_cast, seval, *]; refine ACall.monoP (eqRc_p _ _ (by assumption) (by assumption) _) ?_; (try simp only [push_cast, seval, *]))
    | (refine does_call rfl rfl ?_; simp only [push_cast, seval, *]; refine ACall.monoP (eqNm_p _ _ (by assumption) (by assumption) _) ?_; (try simp only [push_cast, seval, *]))
    | ((first
      | refine AW_region_draw (id := 12) E0 (fun f => [].contains f) dLXA0 dAXA0 mixed (by kernel_rfl) ?_
      | refine AW_region_draw (id := 20) E0 (fun f => [].contains f) dLXA1 dAXA1 mixed (by kernel_rfl) ?_
      | refine AW_region E0 ?_ | refine AW_ret ?_ | refine AW_exit ?_ | refine AW_skip ?_ | unfold retQ); try simp only [push_cast, seval, *])
    | ((first | (apply AW_cond; (case hc => (simp only [push_cast, seval]; rfl))) | (apply ER_guard; (case hb => (simp only [push_cast, seval]; rfl)))); all_goals ((intro hc; first | (exfalso; simp only [push_cast, seval, *] at hc; done) | (exact absurd hc (by decide)) | ((try first | rw [Bool.not_true] at hc | rw [Bool.not_false] at hc); first | (with_reducible replace hc := tTT hc); clear hc | (with_reducible replace hc := tFF hc); clear hc | (have hp := hc; try simp only [decide_eq_true_eq, decide_eq_false_iff_not, bA, bB, bC, bD, bE, bF, bG, bH] at hp))) <;> try simp only [push_cast, seval, *]))
    | (refine Kn.go hK ?_; clear hK K)
    | refine Kn.go (by assumption) ?_
    | (intro n hn; (try simp only [upd_none2, join_none_iff, ite_none, ne_eq] at hn); (try simp only [push_cast, seval, *]))
    | (intro hc)
    | (apply ER_blk; (case hp => rfl); (case hb => (simp only [push_cast, seval]; rfl)); (case hd => (simp only [push_cast, seval]; done)); (case h => (intro hc; simp only [push_cast, seval, *]; rfl)); simp only [push_cast, seval, *])
    | fail)
        exact ⟨⟨a', b', c'⟩, unhid hst2, by (first | trivial | (simp only [push_cast, seval, *]; done)), by
          (repeat' (first | exact Heap.le_refl _ | refine hle_upd2 ?_ _ _ | (refine Heap.le_new ?_ ?_; rotate_left 1; focus (first | assumption | (simp only [upd_none2, upd_get, ne_eq, push_cast, seval, *]; done) | (simp [upd_get, *]; done)))))
          all_goals rfl⟩
      · clear hst
        replace hok := Lib.hid hok
        repeat' (first
    | refine AW_seq_kn fun K hK => ?_
    | refine AW_block ?_
    | (refine does_call rfl rfl ?_; simp only [push_cast, seval, *]; refine ACall.monoP (hru _) ?_; (try simp only [push_cast, seval, *]))
    | (refine does_call rfl rfl ?_; simp only [push_cast, seval, *]; refine ACall.monoP (eqRc_p _ _ (by assumption) (by assumption) _) ?_; (try simp only [push_cast, seval, *]))
    | (refine does_call rfl rfl ?_; simp only [push_cast, seval, *]; refine ACall.monoP (eqNm_p _ _ (by assumption) (by assumption) _) ?_; (try simp only [push_cast, seval, *]))
    | ((first
      | refine AW_region_draw (id := 12) E0 (fun f => [].contains f) dLXA0 dAXA0 mixed (by kernel_rfl) ?_
      | refine AW_region_draw (id := 20) E0 (fun f => [].contains f) dLXA1 dAXA1 mixed (by kernel_rfl) ?_
      | refine AW_region E0 ?_ | refine AW_ret ?_ | refine AW_exit ?_ | refine AW_skip ?_ | unfold retQ); try simp only [push_cast, seval, *])
    | ((first | (apply AW_cond; (case hc => (simp only [push_cast, seval]; rfl))) | (apply ER_guard; (case hb => (simp only [push_cast, seval]; rfl)))); all_goals ((intro hc; first | (exfalso; simp only [push_cast, seval, *] at hc; done) | (exact absurd hc (by decide)) | ((try first | rw [Bool.not_true] at hc | rw [Bool.not_false] at hc); first | (with_reducible replace hc := tTT hc); clear hc | (with_reducible replace hc := tFF hc); clear hc | (have hp := hc; try simp only [decide_eq_true_eq, decide_eq_false_iff_not, bA, bB, bC, bD, bE, bF, bG, bH] at hp))) <;> try simp only [push_cast, seval, *]))
    | (refine Kn.go hK ?_; clear hK K)
    | refine Kn.go (by assumption) ?_
    | (intro n hn; (try simp only [upd_none2, join_none_iff, ite_none, ne_eq] at hn); (try simp only [push_cast, seval, *]))
    | (intro hc)
    | (apply ER_blk; (case hp => rfl); (case hb => (simp only [push_cast, seval]; rfl)); (case hd => (simp only [push_cast, seval]; done)); (case h => (intro hc; simp only [push_cast, seval, *]; rfl)); simp only [push_cast, seval, *])
    | fail)
        exact ⟨⟨a, b, c⟩, unhid hok, by (first | trivial | (simp only [push_cast, seval, *]; done)), by
          (repeat' (first | exact Heap.le_refl _ | refine hle_upd2 ?_ _ _ | (refine Heap.le_new ?_ ?_; rotate_left 1; focus (first | assumption | (simp only [upd_none2, upd_get, ne_eq, push_cast, seval, *]; done) | (simp [upd_get, *]; done)))))
          all_goals rfl⟩
    · rintro s hok
      replace hok := Lib.hid hok
      repeat' (first
    | refine AW_seq_kn fun K hK => ?_
    | refine AW_block ?_
    | (refine does_call rfl rfl ?_; simp only [push_cast, seval, *]; refine ACall.monoP (eqRc_p _ _ (by assumption) (by assumption) _) ?_; (try simp only [push_cast, seval, *]))
    | (refine does_call rfl rfl ?_; simp only [push_cast, seval, *]; refine ACall.monoP (eqNm_p _ _ (by assumption) (by assumption) _) ?_; (try simp only [push_cast, seval, *]))
    | ((first
      | refine AW_region_draw (id := 12) E0 (fun f => [].contains f) dLXA0 dAXA0 mixed (by kernel_rfl) ?_
      | refine AW_region_draw (id := 20) E0 (fun f => [].contains f) dLXA1 dAXA1 mixed (by kernel_rfl) ?_
      | refine AW_region E0 ?_ | refine AW_ret ?_ | refine AW_exit ?_ | refine AW_skip ?_ | unfold retQ); try simp only [push_cast, seval, *])
    | ((first | (apply AW_cond; (case hc => (simp only [push_cast, seval]; rfl))) | (apply ER_guard; (case hb => (simp only [push_cast, seval]; rfl)))); all_goals ((intro hc; first | (exfalso; simp only [push_cast, seval, *] at hc; done) | (exact absurd hc (by decide)) | ((try first | rw [Bool.not_true] at hc | rw [Bool.not_false] at hc); first | (with_reducible replace hc := tTT hc); clear hc | (with_reducible replace hc := tFF hc); clear hc | (have hp := hc; try simp only [decide_eq_true_eq, decide_eq_false_iff_not, bA, bB, bC, bD, bE, bF, bG, bH] at hp))) <;> try simp only [push_cast, seval, *]))
    | (refine Kn.go hK ?_; clear hK K)
    | refine Kn.go (by assumption) ?_
    | (intro n hn; (try simp only [upd_none2, join_none_iff, ite_none, ne_eq] at hn); (try simp only [push_cast, seval, *]))
    | (intro hc)
    | (apply ER_blk; (case hp => rfl); (case hb => (simp only [push_cast, seval]; rfl)); (case hd => (simp only [push_cast, seval]; done)); (case h => (intro hc; simp only [push_cast, seval, *]; rfl)); simp only [push_cast, seval, *])
    | fail)
      exact ⟨s, unhid hok, by (first | trivial | (simp only [push_cast, seval, *]; done)), (by first | exact Heap.le_refl _ | rfl | ((repeat' (first | exact Heap.le_refl _ | refine hle_upd2 ?_ _ _ | (refine Heap.le_new ?_ ?_; rotate_left 1; focus (first | assumption | (simp only [upd_none2, upd_get, ne_eq, push_cast, seval, *]; done) | (simp [upd_get, *]; done))))); all_goals rfl))⟩
  · rintro s hok
    have hfit := fits_of ((lgOk_iff s).2 hok)
    have hab := Abort_p s hfit ns (by unfold maxLen; omega)
    have hbad := fun h => abortR_bad (l := s) (ns := ns) h
    have hgood := fun h => abortR_good (l := s) (ns := ns) h
    have hhas := fun v => hasN_p ns (by unfold maxLen; omega) v
    have hfa := fun x hx => abort_facts hok ns (x := x) hx
    generalize abortR s ns = R at *
    obtain ⟨R1, Rg, Re⟩ := R
    simp only at hbad hgood
    by_cases he : Re = 0
    rotate_left
    · obtain ⟨rfl, rfl⟩ := hbad he
      obtain ⟨a, b, c⟩ := s
      have hz : zeroL.av = [.l 5 [], .l 3 [], .l 3 []] := rfl
      rw [hz] at hab
      simp only [Lg.av] at hab ⊢
      clear hbad hgood hfa hok hfit hhas
      repeat' (first
    | refine AW_seq_kn fun K hK => ?_
    | refine AW_block ?_
    | (refine does_call rfl rfl ?_; simp only [push_cast, seval, *]; refine ACall.monoP (hnm _) ?_; (try simp only [push_cast, seval, *]))
    | (refine does_call rfl rfl ?_; simp only [push_cast, seval, *]; refine ACall.monoP (hab _) ?_; (try simp only [push_cast, seval, *]))
    | (refine does_call rfl rfl ?_; simp only [push_cast, seval, *]; refine ACall.monoP (eqRc_p _ _ (by assumption) (by assumption) _) ?_; (try simp only [push_cast, seval, *]))
    | (refine does_call rfl rfl ?_; simp only [push_cast, seval, *]; refine ACall.monoP (eqNm_p _ _ (by assumption) (by assumption) _) ?_; (try simp only [push_cast, seval, *]))
    | ((first
      | refine AW_region_draw (id := 12) E0 (fun f => [].contains f) dLXA0 dAXA0 mixed (by kernel_rfl) ?_
      | refine AW_region_draw (id := 20) E0 (fun f => [].contains f) dLXA1 dAXA1 mixed (by kernel_rfl) ?_
      | refine AW_region E0 ?_ | refine AW_ret ?_ | refine AW_exit ?_ | refine AW_skip ?_ | unfold retQ); try simp only [push_cast, seval, *])
    | ((first | (apply AW_cond; (case hc => (simp only [push_cast, seval]; rfl))) | (apply ER_guard; (case hb => (simp only [push_cast, seval]; rfl)))); all_goals ((intro hc; first | (exfalso; simp only [push_cast, seval, *] at hc; done) | (exact absurd hc (by decide)) | ((try first | rw [Bool.not_true] at hc | rw [Bool.not_false] at hc); first | (with_reducible replace hc := tTT hc); clear hc | (with_reducible replace hc := tFF hc); clear hc | (have hp := hc; try simp only [decide_eq_true_eq, decide_eq_false_iff_not, bA, bB, bC, bD, bE, bF, bG, bH] at hp))) <;> try simp only [push_cast, seval, *]))
    | (refine Kn.go hK ?_; clear hK K)
    | refine Kn.go (by assumption) ?_
    | (intro n hn; (try simp only [upd_none2, join_none_iff, ite_none, ne_eq] at hn); (try simp only [push_cast, seval, *]))
    | (intro hc)
    | (apply ER_blk; (case hp => rfl); (case hb => (simp only [push_cast, seval]; rfl)); (case hd => (simp only [push_cast, seval]; done)); (case h => (intro hc; simp only [push_cast, seval, *]; rfl)); simp only [push_cast, seval, *])
    | fail)
      exact ⟨_, _, Weak.refl _ _, rfl⟩
    subst he
    obtain ⟨e1, e2, e3⟩ := hgood rfl
    subst e1
    have hNok := hok.abortL ns
    have hNfit := fits_of ((lgOk_iff _).2 hNok)
    have hle : (abortL s ns).txs.length ≤ s.txs.length := List.length_filter_le _ _
    have hst := fun v => State_p _ hNfit v
    have hop := fun v => Open_p _ hNfit v
    have h24 := hok.t24
    have hdn : (abortL s ns).done = s.done := rfl
    have hlg : (abortL s ns).log = s.log := rfl
    generalize abortL s ns = N at *
    have hw : IntKind.i64.wrap ((s.txs.length : Int) - N.txs.length) = Rg := by rw [e2, wrap_i64 (by omega) (by omega)]; omega
    have hd3 := hok.d300
    have hl4 := hok.size
    have hq1 := eqRc_p N.log s.log (by rw [hlg]; unfold sizeS at hl4; unfold maxLen; omega) (by unfold sizeS at hl4; unfold maxLen; omega)
    have hq2 := eqNm_p N.done s.done (by rw [hdn]; unfold maxLen; omega) (by unfold maxLen; omega)
    rw [decide_eq_true hlg] at hq1
    rw [decide_eq_true hdn] at hq2
    obtain ⟨a, b, c⟩ := s
    obtain ⟨a', b', c'⟩ := N
    simp only [Lg.av] at hab hst hop hq1 hq2 ⊢
    simp only at hw hfa h24
    replace hfa := Lib.hid hfa
    replace hst := Lib.hid hst
    replace hop := Lib.hid hop
    replace hhas := Lib.hid hhas
    clear hbad hgood hok hfit hNok hNfit hle hdn hlg e2 e3 hd3 hl4
    repeat' (first
    | refine AW_seq_kn fun K hK => ?_
    | refine AW_block ?_
    | (refine does_call rfl rfl ?_; simp only [push_cast, seval, *]; refine ACall.monoP (hnm _) ?_; (try simp only [push_cast, seval, *]))
    | (refine does_call rfl rfl ?_; simp only [push_cast, seval, *]; refine ACall.monoP (hab _) ?_; (try simp only [push_cast, seval, *]))
    | (refine does_call rfl rfl ?_; simp only [push_cast, seval, *]; refine ACall.monoP (hq1 _) ?_; (try simp only [push_cast, seval, *]))
    | (refine does_call rfl rfl ?_; simp only [push_cast, seval, *]; refine ACall.monoP (hq2 _) ?_; (try simp only [push_cast, seval, *]))
    | (refine does_call rfl rfl ?_; simp only [push_cast, seval, *]; refine ACall.monoP (eqRc_p _ _ (by assumption) (by assumption) _) ?_; (try simp only [push_cast, seval, *]))
    | (refine does_call rfl rfl ?_; simp only [push_cast, seval, *]; refine ACall.monoP (eqNm_p _ _ (by assumption) (by assumption) _) ?_; (try simp only [push_cast, seval, *]))
    | ((first
      | refine AW_region_draw (id := 12) E0 (fun f => [].contains f) dLXA0 dAXA0 mixed (by kernel_rfl) ?_
      | refine AW_region_draw (id := 20) E0 (fun f => [].contains f) dLXA1 dAXA1 mixed (by kernel_rfl) ?_
      | refine AW_region E0 ?_ | refine AW_ret ?_ | refine AW_exit ?_ | refine AW_skip ?_ | unfold retQ); try simp only [push_cast, seval, *])
    | ((first | (apply AW_cond; (case hc => (simp only [push_cast, seval]; rfl))) | (apply ER_guard; (case hb => (simp only [push_cast, seval]; rfl)))); all_goals ((intro hc; first | (exfalso; simp only [push_cast, seval, *] at hc; done) | (exact absurd hc (by decide)) | ((try first | rw [Bool.not_true] at hc | rw [Bool.not_false] at hc); first | (with_reducible replace hc := tTT hc); clear hc | (with_reducible replace hc := tFF hc); clear hc | (have hp := hc; try simp only [decide_eq_true_eq, decide_eq_false_iff_not, bA, bB, bC, bD, bE, bF, bG, bH] at hp))) <;> try simp only [push_cast, seval, *]))
    | (refine Kn.go hK ?_; clear hK K)
    | refine Kn.go (by assumption) ?_
    | (intro n hn; (try simp only [upd_none2, join_none_iff, ite_none, ne_eq] at hn); (try simp only [push_cast, seval, *]))
    | (intro hc)
    | (apply ER_blk; (case hp => rfl); (case hb => (simp only [push_cast, seval]; rfl)); (case hd => (simp only [push_cast, seval]; done)); (case h => (intro hc; simp only [push_cast, seval, *]; rfl)); simp only [push_cast, seval, *])
    | fail)
    generalize n = n11 at *
    have hG : ∃ G : Heap, G n11 = none ∧ True := ⟨H, by first | exact hn.2 | exact hn.2.2, trivial⟩
    clear hG
    refine AW_loopN a.length (fun _ => True) (fun k => [(1, .l 3 (keep.map Nm.av)), (11, .p n11 3 0 0), (86, .l 5 (a.map Tx.av)), (87, ci a.length), (88, ci k)]) (fun _ => upd (upd H n5 (.r 47 3 1 [[.l 5 (a.map Tx.av), .l 3 (b.map Nm.av), .l 3 (c.map Rec.av)]])) n11 (.r 47 3 1 [[.l 5 (a'.map Tx.av), .l 3 (b'.map Nm.av), .l 3 (c'.map Rec.av)]])) trivial ?_ ?_ ?_ ?_
    · (first | trivial | (simp only [push_cast, seval, *]; done))
    · exact Heap.le_refl _
    · intro k hk _
      have hx := List.getElem?_eq_getElem (l := a) hk; generalize a[k] = x at hx; have hxm := List.mem_of_getElem? hx; have hkl : (k : Int) < a.length := (by omega); have hkw : IntKind.i64.wrap ((k : Int) + 1) = (k : Int) + 1 := wrap_i64 (by omega) (by omega)
      obtain ⟨f1, f2⟩ := unhid hfa x hxm
      have hs2 := unhid hst x.nm
      have ho2 := unhid hop x.nm
      have hh2 := unhid hhas x.nm
      generalize stateS ⟨a', b', c'⟩ x.nm = S at *
      generalize openR ⟨a', b', c'⟩ x.nm = O at *
      obtain ⟨⟨o1, o2, o3⟩, oe⟩ := O
      obtain ⟨⟨xs, xa, xn⟩, xst, xrs⟩ := x
      have hxv : Tx.av ⟨⟨xs, xa, xn⟩, xst, xrs⟩ = [.c (.int .i64 xs), .c (.int .i64 xa), .c (.int .i64 xn), .c (.int .i64 xst), .l 3 (xrs.map Rec.av)] := rfl
      simp only [Nm.av] at hs2 ho2 hh2
      simp only at f1 f2
      clear hxm hfa hst hop hhas hq1 hq2 hab
      by_cases hm : (⟨xs, xa, xn⟩ : Nm) ∈ ns
      · rw [decide_eq_true hm] at hh2
        have := f1 hm
        subst this
        clear f1 f2 hm
        repeat' (first
    | refine AW_seq_kn fun K hK => ?_
    | refine AW_block ?_
    | (refine does_call rfl rfl ?_; simp only [push_cast, seval, *]; refine ACall.monoP (hnm _) ?_; (try simp only [push_cast, seval, *]))
    | (refine does_call rfl rfl ?_; simp only [push_cast, seval, *]; refine ACall.monoP (hh2 _) ?_; (try simp only [push_cast, seval, *]))
    | (refine does_call rfl rfl ?_; simp only [push_cast, seval, *]; refine ACall.monoP (hs2 _) ?_; (try simp only [push_cast, seval, *]))
    | (refine does_call rfl rfl ?_; simp only [push_cast, seval, *]; refine ACall.monoP (ho2 _) ?_; (try simp only [push_cast, seval, *]))
    | (refine does_call rfl rfl ?_; simp only [push_cast, seval, *]; refine ACall.monoP (eqRc_p _ _ (by assumption) (by assumption) _) ?_; (try simp only [push_cast, seval, *]))
    | (refine does_call rfl rfl ?_; simp only [push_cast, seval, *]; refine ACall.monoP (eqNm_p _ _ (by assumption) (by assumption) _) ?_; (try simp only [push_cast, seval, *]))
    | ((first
      | refine AW_region_draw (id := 12) E0 (fun f => [].contains f) dLXA0 dAXA0 mixed (by kernel_rfl) ?_
      | refine AW_region_draw (id := 20) E0 (fun f => [].contains f) dLXA1 dAXA1 mixed (by kernel_rfl) ?_
      | refine AW_region E0 ?_ | refine AW_ret ?_ | refine AW_exit ?_ | refine AW_skip ?_ | unfold retQ); try simp only [push_cast, seval, *])
    | ((first | (apply AW_cond; (case hc => (simp only [push_cast, seval]; rfl))) | (apply ER_guard; (case hb => (simp only [push_cast, seval]; rfl)))); all_goals ((intro hc; first | (exfalso; simp only [push_cast, seval, *] at hc; done) | (exact absurd hc (by decide)) | ((try first | rw [Bool.not_true] at hc | rw [Bool.not_false] at hc); first | (with_reducible replace hc := tTT hc); clear hc | (with_reducible replace hc := tFF hc); clear hc | (have hp := hc; try simp only [decide_eq_true_eq, decide_eq_false_iff_not, bA, bB, bC, bD, bE, bF, bG, bH] at hp))) <;> try simp only [push_cast, seval, *]))
    | (refine Kn.go hK ?_; clear hK K)
    | refine Kn.go (by assumption) ?_
    | (intro n hn; (try simp only [upd_none2, join_none_iff, ite_none, ne_eq] at hn); (try simp only [push_cast, seval, *]))
    | (intro hc)
    | (apply ER_blk; (case hp => rfl); (case hb => (simp only [push_cast, seval]; rfl)); (case hd => (simp only [push_cast, seval]; done)); (case h => (intro hc; simp only [push_cast, seval, *]; rfl)); simp only [push_cast, seval, *])
    | fail)
        exact ⟨trivial, by (first | trivial | (simp only [push_cast, seval, *]; done)), by first | trivial | (repeat' (first | exact Heap.le_refl _ | refine hle_upd2 ?_ _ _ | (refine Heap.le_new ?_ ?_; rotate_left 1; focus (first | assumption | (simp only [upd_none2, upd_get, ne_eq, push_cast, seval, *]; done) | (simp [upd_get, *]; done)))))⟩
      · rw [decide_eq_false hm] at hh2
        obtain ⟨rfl, g2⟩ := f2 hm
        (try simp only at g2)
        subst g2
        clear f1 f2 hm
        repeat' (first
    | refine AW_seq_kn fun K hK => ?_
    | refine AW_block ?_
    | (refine does_call rfl rfl ?_; simp only [push_cast, seval, *]; refine ACall.monoP (hnm _) ?_; (try simp only [push_cast, seval, *]))
    | (refine does_call rfl rfl ?_; simp only [push_cast, seval, *]; refine ACall.monoP (hh2 _) ?_; (try simp only [push_cast, seval, *]))
    | (refine does_call rfl rfl ?_; simp only [push_cast, seval, *]; refine ACall.monoP (hs2 _) ?_; (try simp only [push_cast, seval, *]))
    | (refine does_call rfl rfl ?_; simp only [push_cast, seval, *]; refine ACall.monoP (ho2 _) ?_; (try simp only [push_cast, seval, *]))
    | (refine does_call rfl rfl ?_; simp only [push_cast, seval, *]; refine ACall.monoP (eqRc_p _ _ (by assumption) (by assumption) _) ?_; (try simp only [push_cast, seval, *]))
    | (refine does_call rfl rfl ?_; simp only [push_cast, seval, *]; refine ACall.monoP (eqNm_p _ _ (by assumption) (by assumption) _) ?_; (try simp only [push_cast, seval, *]))
    | ((first
      | refine AW_region_draw (id := 12) E0 (fun f => [].contains f) dLXA0 dAXA0 mixed (by kernel_rfl) ?_
      | refine AW_region_draw (id := 20) E0 (fun f => [].contains f) dLXA1 dAXA1 mixed (by kernel_rfl) ?_
      | refine AW_region E0 ?_ | refine AW_ret ?_ | refine AW_exit ?_ | refine AW_skip ?_ | unfold retQ); try simp only [push_cast, seval, *])
    | ((first | (apply AW_cond; (case hc => (simp only [push_cast, seval]; rfl))) | (apply ER_guard; (case hb => (simp only [push_cast, seval]; rfl)))); all_goals ((intro hc; first | (exfalso; simp only [push_cast, seval, *] at hc; done) | (exact absurd hc (by decide)) | ((try first | rw [Bool.not_true] at hc | rw [Bool.not_false] at hc); first | (with_reducible replace hc := tTT hc); clear hc | (with_reducible replace hc := tFF hc); clear hc | (have hp := hc; try simp only [decide_eq_true_eq, decide_eq_false_iff_not, bA, bB, bC, bD, bE, bF, bG, bH] at hp))) <;> try simp only [push_cast, seval, *]))
    | (refine Kn.go hK ?_; clear hK K)
    | refine Kn.go (by assumption) ?_
    | (intro n hn; (try simp only [upd_none2, join_none_iff, ite_none, ne_eq] at hn); (try simp only [push_cast, seval, *]))
    | (intro hc)
    | (apply ER_blk; (case hp => rfl); (case hb => (simp only [push_cast, seval]; rfl)); (case hd => (simp only [push_cast, seval]; done)); (case h => (intro hc; simp only [push_cast, seval, *]; rfl)); simp only [push_cast, seval, *])
    | fail)
        exact ⟨trivial, by (first | trivial | (simp only [push_cast, seval, *]; done)), by first | trivial | (repeat' (first | exact Heap.le_refl _ | refine hle_upd2 ?_ _ _ | (refine Heap.le_new ?_ ?_; rotate_left 1; focus (first | assumption | (simp only [upd_none2, upd_get, ne_eq, push_cast, seval, *]; done) | (simp [upd_get, *]; done)))))⟩
    · intro _
      repeat' (first
    | refine AW_seq_kn fun K hK => ?_
    | refine AW_block ?_
    | (refine does_call rfl rfl ?_; simp only [push_cast, seval, *]; refine ACall.monoP (eqRc_p _ _ (by assumption) (by assumption) _) ?_; (try simp only [push_cast, seval, *]))
    | (refine does_call rfl rfl ?_; simp only [push_cast, seval, *]; refine ACall.monoP (eqNm_p _ _ (by assumption) (by assumption) _) ?_; (try simp only [push_cast, seval, *]))
    | ((first
      | refine AW_region_draw (id := 12) E0 (fun f => [].contains f) dLXA0 dAXA0 mixed (by kernel_rfl) ?_
      | refine AW_region_draw (id := 20) E0 (fun f => [].contains f) dLXA1 dAXA1 mixed (by kernel_rfl) ?_
      | refine AW_region E0 ?_ | refine AW_ret ?_ | refine AW_exit ?_ | refine AW_skip ?_ | unfold retQ); try simp only [push_cast, seval, *])
    | ((first | (apply AW_cond; (case hc => (simp only [push_cast, seval]; rfl))) | (apply ER_guard; (case hb => (simp only [push_cast, seval]; rfl)))); all_goals ((intro hc; first | (exfalso; simp only [push_cast, seval, *] at hc; done) | (exact absurd hc (by decide)) | ((try first | rw [Bool.not_true] at hc | rw [Bool.not_false] at hc); first | (with_reducible replace hc := tTT hc); clear hc | (with_reducible replace hc := tFF hc); clear hc | (have hp := hc; try simp only [decide_eq_true_eq, decide_eq_false_iff_not, bA, bB, bC, bD, bE, bF, bG, bH] at hp))) <;> try simp only [push_cast, seval, *]))
    | (refine Kn.go hK ?_; clear hK K)
    | refine Kn.go (by assumption) ?_
    | (intro n hn; (try simp only [upd_none2, join_none_iff, ite_none, ne_eq] at hn); (try simp only [push_cast, seval, *]))
    | (intro hc)
    | (apply ER_blk; (case hp => rfl); (case hb => (simp only [push_cast, seval]; rfl)); (case hd => (simp only [push_cast, seval]; done)); (case h => (intro hc; simp only [push_cast, seval, *]; rfl)); simp only [push_cast, seval, *])
    | fail)
      exact ⟨_, _, Weak.refl _ _, rfl⟩
end Go.Proofs.Ytdeckjoeggmagaa
