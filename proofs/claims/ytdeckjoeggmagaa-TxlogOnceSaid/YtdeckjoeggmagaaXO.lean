/- TxlogOnce. -/
import Derived.Test.YtdeckjoeggmagaaXO0
import Derived.Test.YtdeckjoeggmagaaSM
import Derived.Test.YtdeckjoeggmagaaWB
namespace Go.Proofs.Ytdeckjoeggmagaa
open Go.RowKit
open Nat renaming reduceEqDiff → nA, reduceLT → nB, reduceLeDiff → nC, reduceAdd → nD, reduceMul → nE, reduceSub → nF, reduceBEq → nG
open Int renaming reduceToNat → iA, reduceLT → iB, reduceLE → iC, reduceEq → iD
open Bool renaming and_eq_true → bA, or_eq_true → bB, or_eq_false_iff → bC, and_eq_false_iff → bD, not_eq_true' → bE, not_eq_false' → bF, not_true → bG, not_false → bH
set_option linter.all false
set_option maxHeartbeats 4000000
attribute [local irreducible] AW Does ACall tE tS tB tZ
def dLXO0 : List En := [(0, true, []), (1, false, []), (2, false, [0, 7]), (3, false, [7]), (4, false, []), (5, false, []), (6, false, []), (7, false, []), (8, false, []), (9, false, [])]
def dAXO0 : List (List Nat) := [[], [], [1], [0, 1, 2], [0, 1, 2, 3], [0, 1, 2, 3, 4], [0, 1, 2, 3, 4], [], [0, 1, 2, 3, 4, 5, 7], [0, 1, 2, 3, 4, 5, 6, 7, 8]]
attribute [push_cast] dLXO0
set_option maxRecDepth 5000

theorem LOk.fine {l : Lg} (h : LOk l) : l.fine := by
  have h1 := h.t24
  have h2 := h.d300
  have h3 := h.size
  have h4 := (lgOk_bd ((lgOk_iff l).2 h)).2.2.2.2
  unfold sizeS at h3
  exact ⟨⟨by unfold maxLen; omega, by unfold maxLen; omega, by unfold maxLen; omega⟩, fun t ht => by have := h4 t ht; unfold maxLen; omega⟩
theorem Abort_n (l : Lg) (hf : l.fits) (M : Heap) : ACall Try.prog 46 [.g (Lg.av l), .c (.slice none 0 0)] M fun r H' => r = .t [.g (abortR l []).1.av, .c (.int .i64 (abortR l []).2.1), .c (.int .i64 (abortR l []).2.2)] ∧ H' = M :=
  opW (vs := [.int .i64 (abortR l []).2.1, .int .i64 (abortR l []).2.2]) (opL (args' := [.g (Lg.av l), .l 3 (([] : List Nm).map Nm.av)]) (show Lent M _ _ ∧ Lent M _ _ ∧ True from ⟨Lent.refl _ _, (OwnL.nil M 0 3).lent, trivial⟩) (Abort_o l hf [] (by simp [maxLen]) emp))
theorem Write_n (l : Lg) (hf : l.fits) (v : Nm) (M : Heap) : ACall Try.prog 54 [.g (Lg.av l), .g (Nm.av v), .c (.slice none 0 0)] M fun r H' => r = .t [.g (writeR l v []).1.av, .c (.int .i64 (writeR l v []).2)] ∧ H' = M :=
  opW (vs := [.int .i64 (writeR l v []).2]) (opL (args' := [.g (Lg.av l), .g (Nm.av v), .l 3 (([] : List Rec).map Rec.av)]) (show Lent M _ _ ∧ Lent M _ _ ∧ Lent M _ _ ∧ True from ⟨Lent.refl _ _, Lent.refl _ _, (OwnL.nil M 0 3).lent, trivial⟩) (Write_o l hf v [] (by simp) emp))
theorem txlogOnce_a (ops : List Op16) (hol : ops.length ≤ maxLen) (hog : ∀ o ∈ ops, o.good) (keep : List Nm) (hkeep : keep.length ≤ maxLen) (H : Heap) :
    ACall Try.prog 12 [.l 6 (ops.map Op16.av), .l 3 (keep.map Nm.av)] H fun r _ => r = .c (.bool true) := by
  have hnm := names_p keep hkeep
  have hl2 : (keep.take 30).length ≤ 30 := by simp; omega
  generalize keep.take 30 = ns at *
  have hwk := wakes16_p
  unfold maxLen at hol
  replace hog := Lib.hid hog
  refine ACall_of' Try.func12 rfl (Ent_of Try.func12 (by kernel_rfl) rfl) (by simp [Try.ntmps12]) ?_; simp only [Try.ntmps12, Try.results12]
  repeat' (first
    | (refine AW_atB (id := 4) ?_)
    | refine AW_seq_kn fun K hK => ?_
    | refine AW_block ?_
    | (refine does_call rfl rfl ?_; simp only [push_cast, seval, *]; refine ACall.monoP (hwk _) ?_; (try simp only [push_cast, seval, *]))
    | (refine does_call rfl rfl ?_; simp only [push_cast, seval, *]; refine ACall.monoP (eqRc_p _ _ (by assumption) (by assumption) _) ?_; (try simp only [push_cast, seval, *]))
    | ((first
      | refine AW_region_draw (id := 12) E0 (fun f => [].contains f) dLXO0 dAXO0 mixed (by kernel_rfl) ?_
      | refine AW_region_draw (id := 15) E0 (fun f => [].contains f) dLXO0 dAXO0 mixed (by kernel_rfl) ?_
      | refine AW_region_draw (id := 17) E0 (fun f => [].contains f) dLXO0 dAXO0 mixed (by kernel_rfl) ?_
      | refine AW_region E0 ?_ | refine AW_ret ?_ | refine AW_exit ?_ | refine AW_skip ?_ | unfold retQ); try simp only [push_cast, seval, *])
    | ((first | (apply AW_cond; (case hc => (simp only [push_cast, seval]; rfl))) | (apply ER_guard; (case hb => (simp only [push_cast, seval]; rfl)))); all_goals ((intro hc; first | (exfalso; simp only [push_cast, seval, *] at hc; done) | (exact absurd hc (by decide)) | ((try first | rw [Bool.not_true] at hc | rw [Bool.not_false] at hc); first | (with_reducible replace hc := tTT hc); clear hc | (with_reducible replace hc := tFF hc); clear hc | (have hp := hc; try simp only [decide_eq_true_eq, decide_eq_false_iff_not, bA, bB, bC, bD, bE, bF, bG, bH] at hp))) <;> try simp only [push_cast, seval, *]))
    | (refine Kn.go hK ?_; clear hK K)
    | refine Kn.go (by assumption) ?_
    | (intro n hn; (try simp only [upd_none2, join_none_iff, ite_none, ne_eq] at hn); (try simp only [push_cast, seval, *]))
    | (intro hc)
    | (apply ER_blk; (case hp => rfl); (case hb => (simp only [push_cast, seval]; rfl)); (case hd => (simp only [push_cast, seval]; done)); (case h => (intro hc; simp only [push_cast, seval, *]; rfl)); simp only [push_cast, seval, *])
    | fail)
  refine ⟨?_⟩
  generalize n = n5 at *
  have gn5 : H n5 = none := hn
  clear hwk
  refine AW_zero (upd_same _ _ _) ?_
  rw [upd_upd]
  refine AW_seqX (σ := Lg) (fun s => LOk s) (fun s => [(1, .l 3 (keep.map Nm.av)), (5, .p n5 3 0 0)]) (fun s => upd H n5 (.r 47 3 1 [Lg.av s])) ?_ ?_
  · repeat' (first
    | refine AW_seq_kn fun K hK => ?_
    | refine AW_block ?_
    | (refine does_call rfl rfl ?_; simp only [push_cast, seval, *]; refine ACall.monoP (eqRc_p _ _ (by assumption) (by assumption) _) ?_; (try simp only [push_cast, seval, *]))
    | ((first
      | refine AW_region_draw (id := 12) E0 (fun f => [].contains f) dLXO0 dAXO0 mixed (by kernel_rfl) ?_
      | refine AW_region_draw (id := 15) E0 (fun f => [].contains f) dLXO0 dAXO0 mixed (by kernel_rfl) ?_
      | refine AW_region_draw (id := 17) E0 (fun f => [].contains f) dLXO0 dAXO0 mixed (by kernel_rfl) ?_
      | refine AW_region E0 ?_ | refine AW_ret ?_ | refine AW_exit ?_ | refine AW_skip ?_ | unfold retQ); try simp only [push_cast, seval, *])
    | ((first | (apply AW_cond; (case hc => (simp only [push_cast, seval]; rfl))) | (apply ER_guard; (case hb => (simp only [push_cast, seval]; rfl)))); all_goals ((intro hc; first | (exfalso; simp only [push_cast, seval, *] at hc; done) | (exact absurd hc (by decide)) | ((try first | rw [Bool.not_true] at hc | rw [Bool.not_false] at hc); first | (with_reducible replace hc := tTT hc); clear hc | (with_reducible replace hc := tFF hc); clear hc | (have hp := hc; try simp only [decide_eq_true_eq, decide_eq_false_iff_not, bA, bB, bC, bD, bE, bF, bG, bH] at hp))) <;> try simp only [push_cast, seval, *]))
    | (refine Kn.go hK ?_; clear hK K)
    | refine Kn.go (by assumption) ?_
    | (intro n hn; (try simp only [upd_none2, join_none_iff, ite_none, ne_eq] at hn); (try simp only [push_cast, seval, *]))
    | (intro hc)
    | (apply ER_blk; (case hp => rfl); (case hb => (simp only [push_cast, seval]; rfl)); (case hd => (simp only [push_cast, seval]; done)); (case h => (intro hc; simp only [push_cast, seval, *]; rfl)); simp only [push_cast, seval, *])
    | fail)
    refine AW_loopX (σ := Lg) ops.length (fun k s => LOk s) (fun k s => [(1, .l 3 (keep.map Nm.av)), (5, .p n5 3 0 0), (28, .l 6 (ops.map Op16.av)), (29, ci ops.length), (30, ci k)]) (fun _ s => upd H n5 (.r 47 3 1 [Lg.av s])) zeroL zeroL_ok ?_ ?_ ?_ ?_
    · (first | trivial | (simp only [push_cast, seval, *]; done))
    · exact Heap.le_refl _
    · rintro k s hk hok
      have ho := List.getElem?_eq_getElem (l := ops) hk; generalize ops[k] = o at ho; have hom := List.mem_of_getElem? ho; have hkl : (k : Int) < ops.length := (by omega); have hkw : IntKind.i64.wrap ((k : Int) + 1) = (k : Int) + 1 := wrap_i64 (by omega) (by omega)
      have hgo := unhid hog o hom
      have hfit := fits_of ((lgOk_iff s).2 hok)
      have hru := run_p o ⟨hgo.2.2.1.1, hgo.2.2.2.1⟩ s hfit
      have hst := run_ok hok o
      generalize runR s o = R at *
      obtain ⟨R1, Rg, Re⟩ := R
      obtain ⟨kd, ⟨ns1, ns2, ns3⟩, nl, rl⟩ := o
      have hav : Op16.av ⟨kd, ⟨ns1, ns2, ns3⟩, nl, rl⟩ = [.c (.int .i64 kd), .c (.int .i64 ns1), .c (.int .i64 ns2), .c (.int .i64 ns3), .l 3 (nl.map Nm.av), .l 3 (rl.map Rec.av)] := rfl
      obtain ⟨a, b, c⟩ := s
      obtain ⟨a', b', c'⟩ := R1
      simp only [Lg.av, hav] at hru ⊢
      simp only at hst
      clear hgo hfit hom hnm
      by_cases h30 : (k : Int) = 30
      · have e30 : k = 30 := by omega
        have ho30 := ho
        rw [e30] at ho30
        clear e30
        have hl30 : (30 : Int) < ops.length := by omega
        replace hok := Lib.hid hok
        replace hst := Lib.hid hst
        repeat' (first
    | refine AW_seq_kn fun K hK => ?_
    | refine AW_block ?_
    | (refine does_call rfl rfl ?_; simp only [push_cast, seval, *]; refine ACall.monoP (eqRc_p _ _ (by assumption) (by assumption) _) ?_; (try simp only [push_cast, seval, *]))
    | ((first
      | refine AW_region_draw (id := 12) E0 (fun f => [].contains f) dLXO0 dAXO0 mixed (by kernel_rfl) ?_
      | refine AW_region_draw (id := 15) E0 (fun f => [].contains f) dLXO0 dAXO0 mixed (by kernel_rfl) ?_
      | refine AW_region_draw (id := 17) E0 (fun f => [].contains f) dLXO0 dAXO0 mixed (by kernel_rfl) ?_
      | refine AW_region E0 ?_ | refine AW_ret ?_ | refine AW_exit ?_ | refine AW_skip ?_ | unfold retQ); try simp only [push_cast, seval, *])
    | ((first | (apply AW_cond; (case hc => (simp only [push_cast, seval]; rfl))) | (apply ER_guard; (case hb => (simp only [push_cast, seval]; rfl)))); all_goals ((intro hc; first | (exfalso; simp only [push_cast, seval, *] at hc; done) | (exact absurd hc (by decide)) | ((try first | rw [Bool.not_true] at hc | rw [Bool.not_false] at hc); first | (with_reducible replace hc := tTT hc); clear hc | (with_reducible replace hc := tFF hc); clear hc | (have hp := hc; try simp only [decide_eq_true_eq, decide_eq_false_iff_not, bA, bB, bC, bD, bE, bF, bG, bH] at hp))) <;> try simp only [push_cast, seval, *]))
    | (refine Kn.go hK ?_; clear hK K)
    | refine Kn.go (by assumption) ?_
    | (intro n hn; (try simp only [upd_none2, join_none_iff, ite_none, ne_eq] at hn); (try simp only [push_cast, seval, *]))
    | (intro hc)
    | (apply ER_blk; (case hp => rfl); (case hb => (simp only [push_cast, seval]; rfl)); (case hd => (simp only [push_cast, seval]; done)); (case h => (intro hc; simp only [push_cast, seval, *]; rfl)); simp only [push_cast, seval, *])
    | fail)
        exact ⟨⟨a, b, c⟩, unhid hok, by (first | trivial | (simp only [push_cast, seval, *]; done)), (by first | exact Heap.le_refl _ | rfl | ((repeat' (first | exact Heap.le_refl _ | refine hle_upd2 ?_ _ _ | (refine Heap.le_new ?_ ?_; rotate_left 1; focus (first | assumption | (simp only [upd_none2, upd_get, ne_eq, push_cast, seval, *]; done) | (simp [upd_get, *]; done))))); all_goals rfl))⟩
      by_cases he : Re = 0
      · subst he
        have hst2 := hst rfl
        clear hst
        replace hok := Lib.hid hok
        replace hst2 := Lib.hid hst2
        repeat' (first
    | refine AW_seq_kn fun K hK => ?_
    | refine AW_block ?_
    | (refine does_call rfl rfl ?_; simp only [push_cast, seval, *]; refine ACall.monoP (hru _) ?_; (try simp only [push_cast, seval, *]))
    | (refine does_call rfl rfl ?_; simp only [push_cast, seval, *]; refine ACall.monoP (eqRc_p _ _ (by assumption) (by assumption) _) ?_; (try simp only [push_cast, seval, *]))
    | ((first
      | refine AW_region_draw (id := 12) E0 (fun f => [].contains f) dLXO0 dAXO0 mixed (by kernel_rfl) ?_
      | refine AW_region_draw (id := 15) E0 (fun f => [].contains f) dLXO0 dAXO0 mixed (by kernel_rfl) ?_
      | refine AW_region_draw (id := 17) E0 (fun f => [].contains f) dLXO0 dAXO0 mixed (by kernel_rfl) ?_
      | refine AW_region E0 ?_ | refine AW_ret ?_ | refine AW_exit ?_ | refine AW_skip ?_ | unfold retQ); try simp only [push_cast, seval, *])
    | ((first | (apply AW_cond; (case hc => (simp only [push_cast, seval]; rfl))) | (apply ER_guard; (case hb => (simp only [push_cast, seval]; rfl)))); all_goals ((intro hc; first | (exfalso; simp only [push_cast, seval, *] at hc; done) | (exact absurd hc (by decide)) | ((try first | rw [Bool.not_true] at hc | rw [Bool.not_false] at hc); first | (with_reducible replace hc := tTT hc); clear hc | (with_reducible replace hc := tFF hc); clear hc | (have hp := hc; try simp only [decide_eq_true_eq, decide_eq_false_iff_not, bA, bB, bC, bD, bE, bF, bG, bH] at hp))) <;> try simp only [push_cast, seval, *]))
    | (refine Kn.go hK ?_; clear hK K)
    | refine Kn.go (by assumption) ?_
    | (intro n hn; (try simp only [upd_none2, join_none_iff, ite_none, ne_eq] at hn); (try simp only [push_cast, seval, *]))
    | (intro hc)
    | (apply ER_blk; (case hp => rfl); (case hb => (simp only [push_cast, seval]; rfl)); (case hd => (simp only [push_cast, seval]; done)); (case h => (intro hc; simp only [push_cast, seval, *]; rfl)); simp only [push_cast, seval, *])
    | fail)
        exact ⟨⟨a', b', c'⟩, unhid hst2, by (first | trivial | (simp only [push_cast, seval, *]; done)), by
          (repeat' (first | exact Heap.le_refl _ | refine hle_upd2 ?_ _ _ | (refine Heap.le_new ?_ ?_; rotate_left 1; focus (first | assumption | (simp only [upd_none2, upd_get, ne_eq, push_cast, seval, *]; done) | (simp [upd_get, *]; done)))))
          all_goals rfl⟩
      · clear hst
        replace hok := Lib.hid hok
        repeat' (first
    | refine AW_seq_kn fun K hK => ?_
    | refine AW_block ?_
    | (refine does_call rfl rfl ?_; simp only [push_cast, seval, *]; refine ACall.monoP (hru _) ?_; (try simp only [push_cast, seval, *]))
    | (refine does_call rfl rfl ?_; simp only [push_cast, seval, *]; refine ACall.monoP (eqRc_p _ _ (by assumption) (by assumption) _) ?_; (try simp only [push_cast, seval, *]))
    | ((first
      | refine AW_region_draw (id := 12) E0 (fun f => [].contains f) dLXO0 dAXO0 mixed (by kernel_rfl) ?_
      | refine AW_region_draw (id := 15) E0 (fun f => [].contains f) dLXO0 dAXO0 mixed (by kernel_rfl) ?_
      | refine AW_region_draw (id := 17) E0 (fun f => [].contains f) dLXO0 dAXO0 mixed (by kernel_rfl) ?_
      | refine AW_region E0 ?_ | refine AW_ret ?_ | refine AW_exit ?_ | refine AW_skip ?_ | unfold retQ); try simp only [push_cast, seval, *])
    | ((first | (apply AW_cond; (case hc => (simp only [push_cast, seval]; rfl))) | (apply ER_guard; (case hb => (simp only [push_cast, seval]; rfl)))); all_goals ((intro hc; first | (exfalso; simp only [push_cast, seval, *] at hc; done) | (exact absurd hc (by decide)) | ((try first | rw [Bool.not_true] at hc | rw [Bool.not_false] at hc); first | (with_reducible replace hc := tTT hc); clear hc | (with_reducible replace hc := tFF hc); clear hc | (have hp := hc; try simp only [decide_eq_true_eq, decide_eq_false_iff_not, bA, bB, bC, bD, bE, bF, bG, bH] at hp))) <;> try simp only [push_cast, seval, *]))
    | (refine Kn.go hK ?_; clear hK K)
    | refine Kn.go (by assumption) ?_
    | (intro n hn; (try simp only [upd_none2, join_none_iff, ite_none, ne_eq] at hn); (try simp only [push_cast, seval, *]))
    | (intro hc)
    | (apply ER_blk; (case hp => rfl); (case hb => (simp only [push_cast, seval]; rfl)); (case hd => (simp only [push_cast, seval]; done)); (case h => (intro hc; simp only [push_cast, seval, *]; rfl)); simp only [push_cast, seval, *])
    | fail)
        exact ⟨⟨a, b, c⟩, unhid hok, by (first | trivial | (simp only [push_cast, seval, *]; done)), by
          (repeat' (first | exact Heap.le_refl _ | refine hle_upd2 ?_ _ _ | (refine Heap.le_new ?_ ?_; rotate_left 1; focus (first | assumption | (simp only [upd_none2, upd_get, ne_eq, push_cast, seval, *]; done) | (simp [upd_get, *]; done)))))
          all_goals rfl⟩
    · rintro s hok
      replace hok := Lib.hid hok
      repeat' (first
    | refine AW_seq_kn fun K hK => ?_
    | refine AW_block ?_
    | (refine does_call rfl rfl ?_; simp only [push_cast, seval, *]; refine ACall.monoP (eqRc_p _ _ (by assumption) (by assumption) _) ?_; (try simp only [push_cast, seval, *]))
    | ((first
      | refine AW_region_draw (id := 12) E0 (fun f => [].contains f) dLXO0 dAXO0 mixed (by kernel_rfl) ?_
      | refine AW_region_draw (id := 15) E0 (fun f => [].contains f) dLXO0 dAXO0 mixed (by kernel_rfl) ?_
      | refine AW_region_draw (id := 17) E0 (fun f => [].contains f) dLXO0 dAXO0 mixed (by kernel_rfl) ?_
      | refine AW_region E0 ?_ | refine AW_ret ?_ | refine AW_exit ?_ | refine AW_skip ?_ | unfold retQ); try simp only [push_cast, seval, *])
    | ((first | (apply AW_cond; (case hc => (simp only [push_cast, seval]; rfl))) | (apply ER_guard; (case hb => (simp only [push_cast, seval]; rfl)))); all_goals ((intro hc; first | (exfalso; simp only [push_cast, seval, *] at hc; done) | (exact absurd hc (by decide)) | ((try first | rw [Bool.not_true] at hc | rw [Bool.not_false] at hc); first | (with_reducible replace hc := tTT hc); clear hc | (with_reducible replace hc := tFF hc); clear hc | (have hp := hc; try simp only [decide_eq_true_eq, decide_eq_false_iff_not, bA, bB, bC, bD, bE, bF, bG, bH] at hp))) <;> try simp only [push_cast, seval, *]))
    | (refine Kn.go hK ?_; clear hK K)
    | refine Kn.go (by assumption) ?_
    | (intro n hn; (try simp only [upd_none2, join_none_iff, ite_none, ne_eq] at hn); (try simp only [push_cast, seval, *]))
    | (intro hc)
    | (apply ER_blk; (case hp => rfl); (case hb => (simp only [push_cast, seval]; rfl)); (case hd => (simp only [push_cast, seval]; done)); (case h => (intro hc; simp only [push_cast, seval, *]; rfl)); simp only [push_cast, seval, *])
    | fail)
      exact ⟨s, unhid hok, by (first | trivial | (simp only [push_cast, seval, *]; done)), (by first | exact Heap.le_refl _ | rfl | ((repeat' (first | exact Heap.le_refl _ | refine hle_upd2 ?_ _ _ | (refine Heap.le_new ?_ ?_; rotate_left 1; focus (first | assumption | (simp only [upd_none2, upd_get, ne_eq, push_cast, seval, *]; done) | (simp [upd_get, *]; done))))); all_goals rfl))⟩
  · rintro s hok
    have hfit := fits_of ((lgOk_iff s).2 hok)
    have hco := Commit_p s hfit ns (by unfold maxLen; omega)
    have hbad := fun h => commitR_bad (l := s) (ns := ns) h
    have hon := fun h => commit_once hok (ns := ns) h
    have hri := fun h => commitR_rise (l := s) (ns := ns) h
    generalize commitR s ns = R at *
    obtain ⟨R1, Re⟩ := R
    simp only at hbad hon hri
    by_cases he : Re = 0
    rotate_left
    · obtain rfl := hbad he
      obtain ⟨a, b, c⟩ := s
      have hz : zeroL.av = [.l 5 [], .l 3 [], .l 3 []] := rfl
      rw [hz] at hco
      simp only [Lg.av] at hco ⊢
      clear hbad hon hri hok hfit
      repeat' (first
    | refine AW_seq_kn fun K hK => ?_
    | refine AW_block ?_
    | (refine does_call rfl rfl ?_; simp only [push_cast, seval, *]; refine ACall.monoP (hnm _) ?_; (try simp only [push_cast, seval, *]))
    | (refine does_call rfl rfl ?_; simp only [push_cast, seval, *]; refine ACall.monoP (hco _) ?_; (try simp only [push_cast, seval, *]))
    | (refine does_call rfl rfl ?_; simp only [push_cast, seval, *]; refine ACall.monoP (eqRc_p _ _ (by assumption) (by assumption) _) ?_; (try simp only [push_cast, seval, *]))
    | ((first
      | refine AW_region_draw (id := 12) E0 (fun f => [].contains f) dLXO0 dAXO0 mixed (by kernel_rfl) ?_
      | refine AW_region_draw (id := 15) E0 (fun f => [].contains f) dLXO0 dAXO0 mixed (by kernel_rfl) ?_
      | refine AW_region_draw (id := 17) E0 (fun f => [].contains f) dLXO0 dAXO0 mixed (by kernel_rfl) ?_
      | refine AW_region E0 ?_ | refine AW_ret ?_ | refine AW_exit ?_ | refine AW_skip ?_ | unfold retQ); try simp only [push_cast, seval, *])
    | ((first | (apply AW_cond; (case hc => (simp only [push_cast, seval]; rfl))) | (apply ER_guard; (case hb => (simp only [push_cast, seval]; rfl)))); all_goals ((intro hc; first | (exfalso; simp only [push_cast, seval, *] at hc; done) | (exact absurd hc (by decide)) | ((try first | rw [Bool.not_true] at hc | rw [Bool.not_false] at hc); first | (with_reducible replace hc := tTT hc); clear hc | (with_reducible replace hc := tFF hc); clear hc | (have hp := hc; try simp only [decide_eq_true_eq, decide_eq_false_iff_not, bA, bB, bC, bD, bE, bF, bG, bH] at hp))) <;> try simp only [push_cast, seval, *]))
    | (refine Kn.go hK ?_; clear hK K)
    | refine Kn.go (by assumption) ?_
    | (intro n hn; (try simp only [upd_none2, join_none_iff, ite_none, ne_eq] at hn); (try simp only [push_cast, seval, *]))
    | (intro hc)
    | (apply ER_blk; (case hp => rfl); (case hb => (simp only [push_cast, seval]; rfl)); (case hd => (simp only [push_cast, seval]; done)); (case h => (intro hc; simp only [push_cast, seval, *]; rfl)); simp only [push_cast, seval, *])
    | fail)
      exact ⟨_, _, Weak.refl _ _, rfl⟩
    subst he
    have hO := hon rfl
    have hA := hO.abort (hri rfl)
    have fN := fits_of ((lgOk_iff _).2 hO.ok)
    have fA := fits_of ((lgOk_iff _).2 hA.ok)
    have hc2 := Commit_p _ fN ns (by unfold maxLen; omega)
    have hc3 := Commit_p _ fA ns (by unfold maxLen; omega)
    rw [hO.again] at hc2
    rw [hA.again] at hc3
    have hab := fun M => Abort_n R1 fN M
    rw [abort_nil R1 hO.ok] at hab
    have hs1 := Same_p R1 R1 hO.ok.fine hO.ok.fine
    have hs2 := Same_p _ _ hA.ok.fine hA.ok.fine
    rw [decide_eq_true rfl] at hs1 hs2
    have hq := eqRc_p R1.log R1.log hO.ok.fine.1.2.2 hO.ok.fine.1.2.2
    rw [decide_eq_true rfl] at hq
    have hf := fun v hv => hO.facts (v := v) hv
    have hst := fun v => State_p R1 fN v
    have hop := fun v => Open_p R1 fN v
    have hwr := fun v M => Write_n R1 fN v M
    generalize Int.ofNat R1.txs.length = dummy at *
    obtain ⟨a, b, c⟩ := s
    obtain ⟨a', b', c'⟩ := R1
    simp only [Lg.av, List.map_nil] at hco hc2 hc3 hab hs1 hs2 hq hst hop hwr ⊢
    clear hbad hon hri hok hfit hO hA fN fA
    replace hf := Lib.hid hf
    replace hst := Lib.hid hst
    replace hop := Lib.hid hop
    replace hwr := Lib.hid hwr
    repeat' (first
    | refine AW_seq_kn fun K hK => ?_
    | refine AW_block ?_
    | (refine does_call rfl rfl ?_; simp only [push_cast, seval, *]; refine ACall.monoP (hnm _) ?_; (try simp only [push_cast, seval, *]))
    | (refine does_call rfl rfl ?_; simp only [push_cast, seval, *]; refine ACall.monoP (hco _) ?_; (try simp only [push_cast, seval, *]))
    | (refine does_call rfl rfl ?_; simp only [push_cast, seval, *]; refine ACall.monoP (hc2 _) ?_; (try simp only [push_cast, seval, *]))
    | (refine does_call rfl rfl ?_; simp only [push_cast, seval, *]; refine ACall.monoP (hab _) ?_; (try simp only [push_cast, seval, *]))
    | (refine does_call rfl rfl ?_; simp only [push_cast, seval, *]; refine ACall.monoP (hc3 _) ?_; (try simp only [push_cast, seval, *]))
    | (refine does_call rfl rfl ?_; simp only [push_cast, seval, *]; refine ACall.monoP (hs1 _) ?_; (try simp only [push_cast, seval, *]))
    | (refine does_call rfl rfl ?_; simp only [push_cast, seval, *]; refine ACall.monoP (hs2 _) ?_; (try simp only [push_cast, seval, *]))
    | (refine does_call rfl rfl ?_; simp only [push_cast, seval, *]; refine ACall.monoP (hq _) ?_; (try simp only [push_cast, seval, *]))
    | (refine does_call rfl rfl ?_; simp only [push_cast, seval, *]; refine ACall.monoP (eqRc_p _ _ (by assumption) (by assumption) _) ?_; (try simp only [push_cast, seval, *]))
    | ((first
      | refine AW_region_draw (id := 12) E0 (fun f => [].contains f) dLXO0 dAXO0 mixed (by kernel_rfl) ?_
      | refine AW_region_draw (id := 15) E0 (fun f => [].contains f) dLXO0 dAXO0 mixed (by kernel_rfl) ?_
      | refine AW_region_draw (id := 17) E0 (fun f => [].contains f) dLXO0 dAXO0 mixed (by kernel_rfl) ?_
      | refine AW_region E0 ?_ | refine AW_ret ?_ | refine AW_exit ?_ | refine AW_skip ?_ | unfold retQ); try simp only [push_cast, seval, *])
    | ((first | (apply AW_cond; (case hc => (simp only [push_cast, seval]; rfl))) | (apply ER_guard; (case hb => (simp only [push_cast, seval]; rfl)))); all_goals ((intro hc; first | (exfalso; simp only [push_cast, seval, *] at hc; done) | (exact absurd hc (by decide)) | ((try first | rw [Bool.not_true] at hc | rw [Bool.not_false] at hc); first | (with_reducible replace hc := tTT hc); clear hc | (with_reducible replace hc := tFF hc); clear hc | (have hp := hc; try simp only [decide_eq_true_eq, decide_eq_false_iff_not, bA, bB, bC, bD, bE, bF, bG, bH] at hp))) <;> try simp only [push_cast, seval, *]))
    | (refine Kn.go hK ?_; clear hK K)
    | refine Kn.go (by assumption) ?_
    | (intro n hn; (try simp only [upd_none2, join_none_iff, ite_none, ne_eq] at hn); (try simp only [push_cast, seval, *]))
    | (intro hc)
    | (apply ER_blk; (case hp => rfl); (case hb => (simp only [push_cast, seval]; rfl)); (case hd => (simp only [push_cast, seval]; done)); (case h => (intro hc; simp only [push_cast, seval, *]; rfl)); simp only [push_cast, seval, *])
    | fail)
    rename_i n11 h11 n13 h13 n15 h15
    have gn11 : H n11 = none := h11.2
    refine AW_loopN ns.length (fun _ => True) (fun k => [(11, .p n11 3 0 0), (126, .l 3 (ns.map Nm.av)), (127, ci ns.length), (128, ci k)]) (fun _ => upd H n11 (.r 47 3 1 [[.l 5 (a'.map Tx.av), .l 3 (b'.map Nm.av), .l 3 (c'.map Rec.av)]])) trivial ?_ ?_ ?_ ?_
    · (first | trivial | (simp only [push_cast, seval, *]; done))
    · refine le_skip (le_skip (le_skip ?_ (by rw [upd_ne h13.1.1]; exact h13.2.2)) (by rw [upd_ne h15.2.1.1]; exact h15.2.2.2)) (by rw [upd_ne hn.2.2.1.1]; exact hn.2.2.2.2)
      intro q c hq
      by_cases e : q = n11
      · subst e; rw [upd_same] at hq ⊢; exact hq
      · rw [upd_ne e] at hq ⊢
        have e5 : q ≠ n5 := by rintro rfl; rw [gn5] at hq; cases hq
        rw [upd_ne e5]; exact hq
    · intro k hk _
      have hv := List.getElem?_eq_getElem (l := ns) hk; generalize ns[k] = v at hv; have hvm := List.mem_of_getElem? hv; have hkl : (k : Int) < ns.length := (by omega); have hkw : IntKind.i64.wrap ((k : Int) + 1) = (k : Int) + 1 := wrap_i64 (by omega) (by omega)
      clear h13 h15
      obtain ⟨f1, f2, f3⟩ := unhid hf v hvm
      have hs := unhid hst v
      have ho := unhid hop v
      have hw := unhid hwr v
      rw [f1] at hs
      generalize openR ⟨a', b', c'⟩ v = O at *
      generalize writeR ⟨a', b', c'⟩ v [] = W at *
      obtain ⟨⟨o1, o2, o3⟩, oe⟩ := O
      obtain ⟨⟨q1, q2, q3⟩, qe⟩ := W
      obtain ⟨vs, va, vn⟩ := v
      have hnv : Nm.av ⟨vs, va, vn⟩ = [.c (.int .i64 vs), .c (.int .i64 va), .c (.int .i64 vn)] := rfl
      simp only [hnv] at hs ho hw
      simp only at f2 f3
      subst f2
      subst f3
      clear f1 hvm hf hst hop hwr hc2 hs1 hq hco hc3 hab hs2 hn
      repeat' (first
    | refine AW_seq_kn fun K hK => ?_
    | refine AW_block ?_
    | (refine does_call rfl rfl ?_; simp only [push_cast, seval, *]; refine ACall.monoP (hs _) ?_; (try simp only [push_cast, seval, *]))
    | (refine does_call rfl rfl ?_; simp only [push_cast, seval, *]; refine ACall.monoP (ho _) ?_; (try simp only [push_cast, seval, *]))
    | (refine does_call rfl rfl ?_; simp only [push_cast, seval, *]; refine ACall.monoP (hw _) ?_; (try simp only [push_cast, seval, *]))
    | (refine does_call rfl rfl ?_; simp only [push_cast, seval, *]; refine ACall.monoP (eqRc_p _ _ (by assumption) (by assumption) _) ?_; (try simp only [push_cast, seval, *]))
    | ((first
      | refine AW_region_draw (id := 12) E0 (fun f => [].contains f) dLXO0 dAXO0 mixed (by kernel_rfl) ?_
      | refine AW_region_draw (id := 15) E0 (fun f => [].contains f) dLXO0 dAXO0 mixed (by kernel_rfl) ?_
      | refine AW_region_draw (id := 17) E0 (fun f => [].contains f) dLXO0 dAXO0 mixed (by kernel_rfl) ?_
      | refine AW_region E0 ?_ | refine AW_ret ?_ | refine AW_exit ?_ | refine AW_skip ?_ | unfold retQ); try simp only [push_cast, seval, *])
    | ((first | (apply AW_cond; (case hc => (simp only [push_cast, seval]; rfl))) | (apply ER_guard; (case hb => (simp only [push_cast, seval]; rfl)))); all_goals ((intro hc; first | (exfalso; simp only [push_cast, seval, *] at hc; done) | (exact absurd hc (by decide)) | ((try first | rw [Bool.not_true] at hc | rw [Bool.not_false] at hc); first | (with_reducible replace hc := tTT hc); clear hc | (with_reducible replace hc := tFF hc); clear hc | (have hp := hc; try simp only [decide_eq_true_eq, decide_eq_false_iff_not, bA, bB, bC, bD, bE, bF, bG, bH] at hp))) <;> try simp only [push_cast, seval, *]))
    | (refine Kn.go hK ?_; clear hK K)
    | refine Kn.go (by assumption) ?_
    | (intro n hn; (try simp only [upd_none2, join_none_iff, ite_none, ne_eq] at hn); (try simp only [push_cast, seval, *]))
    | (intro hc)
    | (apply ER_blk; (case hp => rfl); (case hb => (simp only [push_cast, seval]; rfl)); (case hd => (simp only [push_cast, seval]; done)); (case h => (intro hc; simp only [push_cast, seval, *]; rfl)); simp only [push_cast, seval, *])
    | fail)
      exact ⟨trivial, by (first | trivial | (simp only [push_cast, seval, *]; done)), by first | trivial | (repeat' (first | exact Heap.le_refl _ | refine hle_upd2 ?_ _ _ | (refine Heap.le_new ?_ ?_; rotate_left 1; focus (first | assumption | (simp only [upd_none2, upd_get, ne_eq, push_cast, seval, *]; done) | (simp [upd_get, *]; done)))))⟩
    · intro _
      repeat' (first
    | refine AW_seq_kn fun K hK => ?_
    | refine AW_block ?_
    | (refine does_call rfl rfl ?_; simp only [push_cast, seval, *]; refine ACall.monoP (eqRc_p _ _ (by assumption) (by assumption) _) ?_; (try simp only [push_cast, seval, *]))
    | ((first
      | refine AW_region_draw (id := 12) E0 (fun f => [].contains f) dLXO0 dAXO0 mixed (by kernel_rfl) ?_
      | refine AW_region_draw (id := 15) E0 (fun f => [].contains f) dLXO0 dAXO0 mixed (by kernel_rfl) ?_
      | refine AW_region_draw (id := 17) E0 (fun f => [].contains f) dLXO0 dAXO0 mixed (by kernel_rfl) ?_
      | refine AW_region E0 ?_ | refine AW_ret ?_ | refine AW_exit ?_ | refine AW_skip ?_ | unfold retQ); try simp only [push_cast, seval, *])
    | ((first | (apply AW_cond; (case hc => (simp only [push_cast, seval]; rfl))) | (apply ER_guard; (case hb => (simp only [push_cast, seval]; rfl)))); all_goals ((intro hc; first | (exfalso; simp only [push_cast, seval, *] at hc; done) | (exact absurd hc (by decide)) | ((try first | rw [Bool.not_true] at hc | rw [Bool.not_false] at hc); first | (with_reducible replace hc := tTT hc); clear hc | (with_reducible replace hc := tFF hc); clear hc | (have hp := hc; try simp only [decide_eq_true_eq, decide_eq_false_iff_not, bA, bB, bC, bD, bE, bF, bG, bH] at hp))) <;> try simp only [push_cast, seval, *]))
    | (refine Kn.go hK ?_; clear hK K)
    | refine Kn.go (by assumption) ?_
    | (intro n hn; (try simp only [upd_none2, join_none_iff, ite_none, ne_eq] at hn); (try simp only [push_cast, seval, *]))
    | (intro hc)
    | (apply ER_blk; (case hp => rfl); (case hb => (simp only [push_cast, seval]; rfl)); (case hd => (simp only [push_cast, seval]; done)); (case h => (intro hc; simp only [push_cast, seval, *]; rfl)); simp only [push_cast, seval, *])
    | fail)
      exact ⟨_, _, Weak.refl _ _, rfl⟩
end Go.Proofs.Ytdeckjoeggmagaa
