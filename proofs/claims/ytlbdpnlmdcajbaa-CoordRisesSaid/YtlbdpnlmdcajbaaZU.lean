/- CoordRises. -/
import Derived.Test.YtlbdpnlmdcajbaaZ
import Derived.Test.YtlbdpnlmdcajbaaZS
import Derived.Test.YtlbdpnlmdcajbaaZT
namespace Go.Proofs.Ytlbdpnlmdcajbaa
open Go.RowKit
open Nat renaming reduceEqDiff → nA, reduceLT → nB, reduceLeDiff → nC, reduceAdd → nD, reduceMul → nE, reduceSub → nF, reduceBEq → nG
open Int renaming reduceToNat → iA, reduceLT → iB, reduceLE → iC, reduceEq → iD
open Bool renaming and_eq_true → bA, or_eq_true → bB, or_eq_false_iff → bC, and_eq_false_iff → bD, not_eq_true' → bE, not_eq_false' → bF, not_true → bG, not_false → bH
set_option linter.all false
set_option maxHeartbeats 4000000
attribute [local irreducible] AW Does ACall tE tS tB tZ
def dLZU0 : List En := [(0, false, []), (1, false, []), (2, false, []), (3, false, []), (4, false, []), (5, false, []), (6, false, [])]
def dAZU0 : List (List Nat) := [[], [], [1], [], [3], [3, 4], [0, 1, 2, 3, 4, 5]]
attribute [push_cast] dLZU0
set_option maxRecDepth 5000

theorem tE_open : tE Try.prog 59 = none := by kernel_rfl
attribute [push_cast] tE_open
theorem cd_av (c : Cd) : c.av = [.c (.int .u64 c.epoch), .c (.int .u64 c.counter), .c (.int .i64 c.tasks), .c (.int .i64 c.attempt), .c (.int .i64 c.span), .l 4 (c.pend.map Pd.av)] := rfl
def cB (c : Cd) : Blk := .r 30 6 1 [[.c (.int .u64 c.epoch), .c (.int .u64 c.counter), .c (.int .i64 c.tasks), .c (.int .i64 c.attempt), .c (.int .i64 c.span), .l 4 (c.pend.map Pd.av)]]
theorem short_fits {c : Cd} (h : c.good) : (shortS c).pend.length ≤ 3 ∧ (shortS c).fits := by
  obtain ⟨h1, h2, h3⟩ := h
  refine ⟨by simp [shortS]; omega, h1.2.1, fun p hp => ?_⟩
  simp only [shortS, List.mem_map] at hp
  obtain ⟨q, hq, rfl⟩ := hp
  have hq2 := List.mem_of_mem_take hq
  refine ⟨(h3 q hq2).1, ?_⟩
  simp [shP, maxLen]; omega
theorem coordRises_a (x : Cd) (hg : x.good) (l : List Op22) (hl : l.length ≤ maxLen ∧ ∀ o ∈ l, o.good) (H : Heap) :
    ACall Try.prog 6 [.g (Cd.av x), .l 8 (l.map Op22.av)] H fun r _ => r = .c (.bool true) := by
  obtain ⟨hl1, hl2⟩ := hl
  unfold maxLen at hl1
  have hsh := short_p x hg
  have hok := short_fits hg
  generalize shortS x = c at *
  clear hg
  have hch := Check_p c (by have := hok.1; unfold maxLen; omega) hok.2.2
  have hfit := hok.2
  clear hok
  obtain ⟨e, k0, t, a, s, pe⟩ := c
  simp only [Cd.av] at hsh hch
  replace hl2 := Lib.hid hl2
  cases hco : cdOk ⟨e, k0, t, a, s, pe⟩
  · rw [hco] at hch
    simp only [if_false, Bool.false_eq_true] at hch
    refine ACall_of' Try.func6 rfl (Ent_of Try.func6 (by kernel_rfl) rfl) (by simp [Try.ntmps6]) ?_; simp only [Try.ntmps6, Try.results6]
    repeat' (first
    | refine AW_seq_kn fun K hK => ?_
    | refine AW_block ?_
    | (refine does_call rfl rfl ?_; simp only [push_cast, seval, *]; refine ACall.monoP (hsh _) ?_; (try simp only [push_cast, seval, *]))
    | (refine does_call rfl rfl ?_; simp only [push_cast, seval, *]; refine ACall.monoP (hch _) ?_; (try simp only [push_cast, seval, *]))
    | (refine does_call rfl rfl ?_; simp only [push_cast, seval, *]; refine ACall.monoP (wakes22_p _) ?_; (try simp only [push_cast, seval, *]))
    | ((first
      | refine AW_region_draw (id := 28) E0 (fun f => [].contains f) dLZU0 dAZU0 mixed (by kernel_rfl) ?_
      | refine AW_region E0 ?_ | refine AW_ret ?_ | refine AW_exit ?_ | refine AW_skip ?_ | unfold retQ); try simp only [push_cast, seval, *])
    | ((first | (apply AW_cond; (case hc => (simp only [push_cast, seval]; rfl))) | (apply ER_guard; (case hb => (simp only [push_cast, seval]; rfl)))); all_goals ((intro hc; first | (exfalso; simp only [push_cast, seval, *] at hc; done) | (exact absurd hc (by decide)) | ((try first | rw [Bool.not_true] at hc | rw [Bool.not_false] at hc); first | (with_reducible replace hc := tTT hc); clear hc | (with_reducible replace hc := tFF hc); clear hc | (have hp := hc; try simp only [decide_eq_true_eq, decide_eq_false_iff_not, bA, bB, bC, bD, bE, bF, bG, bH] at hp))) <;> try simp only [push_cast, seval, *]))
    | (refine Kn.go hK ?_; clear hK K)
    | refine Kn.go (by assumption) ?_
    | (intro n hn; (try simp only [upd_none2, join_none_iff, ite_none, ne_eq] at hn); (try simp only [push_cast, seval, *]))
    | (intro hc)
    | (apply ER_blk; (case hp => rfl); (case hb => (simp only [push_cast, seval]; rfl)); (case hd => (simp only [push_cast, seval]; done)); (case h => (intro hc; simp only [push_cast, seval, *]; rfl)); simp only [push_cast, seval, *])
    | fail)
    exact ⟨_, _, Weak.refl _ _, rfl⟩
  rw [hco] at hch
  simp only [if_true] at hch
  have hhd := (headOk_iff _).1 ((cdOk_iff _).1 hco).1
  have hnu := Number_p e k0 (by have := hhd.1.1; simp only at this; omega) hfit.1.1
  simp only at hhd
  obtain ⟨-, -, -, -, -, hpl⟩ := hhd
  replace hco := Lib.hid hco
  replace hfit := Lib.hid hfit
  refine ACall_of' Try.func6 rfl (Ent_of Try.func6 (by kernel_rfl) rfl) (by simp [Try.ntmps6]) ?_; simp only [Try.ntmps6, Try.results6]
  repeat' (first
    | refine AW_seq_kn fun K hK => ?_
    | refine AW_block ?_
    | (refine does_call rfl rfl ?_; simp only [push_cast, seval, *]; refine ACall.monoP (hsh _) ?_; (try simp only [push_cast, seval, *]))
    | (refine does_call rfl rfl ?_; simp only [push_cast, seval, *]; refine ACall.monoP (hch _) ?_; (try simp only [push_cast, seval, *]))
    | (refine does_call rfl rfl ?_; simp only [push_cast, seval, *]; refine ACall.monoP (hnu _) ?_; (try simp only [push_cast, seval, *]))
    | (refine does_makeMap kU rfl ?_)
    | (refine does_call rfl rfl ?_; simp only [push_cast, seval, *]; refine ACall.monoP (wakes22_p _) ?_; (try simp only [push_cast, seval, *]))
    | ((first
      | refine AW_region_draw (id := 28) E0 (fun f => [].contains f) dLZU0 dAZU0 mixed (by kernel_rfl) ?_
      | refine AW_region E0 ?_ | refine AW_ret ?_ | refine AW_exit ?_ | refine AW_skip ?_ | unfold retQ); try simp only [push_cast, seval, *])
    | ((first | (apply AW_cond; (case hc => (simp only [push_cast, seval]; rfl))) | (apply ER_guard; (case hb => (simp only [push_cast, seval]; rfl)))); all_goals ((intro hc; first | (exfalso; simp only [push_cast, seval, *] at hc; done) | (exact absurd hc (by decide)) | ((try first | rw [Bool.not_true] at hc | rw [Bool.not_false] at hc); first | (with_reducible replace hc := tTT hc); clear hc | (with_reducible replace hc := tFF hc); clear hc | (have hp := hc; try simp only [decide_eq_true_eq, decide_eq_false_iff_not, bA, bB, bC, bD, bE, bF, bG, bH] at hp))) <;> try simp only [push_cast, seval, *]))
    | (refine Kn.go hK ?_; clear hK K)
    | refine Kn.go (by assumption) ?_
    | (intro n hn; (try simp only [upd_none2, join_none_iff, ite_none, ne_eq] at hn); (try simp only [push_cast, seval, *]))
    | (intro hc)
    | (apply ER_blk; (case hp => rfl); (case hb => (simp only [push_cast, seval]; rfl)); (case hd => (simp only [push_cast, seval]; done)); (case h => (intro hc; simp only [push_cast, seval, *]; rfl)); simp only [push_cast, seval, *])
    | fail)
  rename_i n1 h1 n5 h5
  generalize n = n7 at *
  have n75 : ¬ n7 = n5 := hn.1.1
  have n57 : ¬ n5 = n7 := hn.1.2
  have hn7 : H n7 = none := hn.2.2
  have hn5 : H n5 = none := h5.2
  clear hn h5 hnu hsh
  have hn75 : upd H n5 (cB ⟨e, k0, t, a, s, pe⟩) n7 = none := by rw [upd_ne n75]; exact hn7
  obtain ⟨Hc, hHc⟩ : ∃ Hc : Cd → Heap, Hc = fun c => upd H n5 (cB c) := ⟨_, rfl⟩
  refine AW_loopX (σ := List (ME Int) × Nat) pe.length (fun k s => SetM ((pe.take k).map Pd.num) s.1) (fun k s => [(1, .l 8 (l.map Op22.av)), (5, .p n5 6 0 0), (6, .c (.int .u64 (numS e k0))), (7, .c (.map (some n7))), (31, .l 4 (pe.map Pd.av)), (32, ci pe.length), (33, ci k)]) (fun _ st => upd (upd H n5 (.r 30 6 1 [[.c (.int .u64 e), .c (.int .u64 k0), .c (.int .i64 t), .c (.int .i64 a), .c (.int .i64 s), .l 4 (pe.map Pd.av)]])) n7 (bm kU st.1 st.2 M0)) ([], 0) SetM.nil ?_ ?_ ?_ ?_
  · (first | trivial | (simp only [push_cast, seval, *]; done))
  · (repeat' (first | exact Heap.le_refl _ | refine hle_upd2 ?_ _ _ | (refine Heap.le_new ?_ ?_; rotate_left 1; focus (first | assumption | (simp only [upd_none2, upd_get, ne_eq, push_cast, seval, *]; done) | (simp [upd_get, *]; done)))))
  · rintro k ⟨lo, ck⟩ hk hs
    clear h1
    have hq := List.getElem?_eq_getElem (l := pe) hk; generalize pe[k] = q at hq; have hqm := List.mem_of_getElem? hq; have hkl : (k : Int) < pe.length := (by omega); have hkw : IntKind.i64.wrap ((k : Int) + 1) = (k : Int) + 1 := wrap_i64 (by omega) (by omega)
    obtain ⟨num, bg, sv, ac⟩ := q
    have hav : Pd.av ⟨num, bg, sv, ac⟩ = [.c (.int .u64 num), .c (.int .i64 bg), .c (.bool sv), .l 2 (ac.map Ak.av)] := rfl
    have hnd := (pdGo_nums ((cdOk_iff _).1 (unhid hco)).2).1
    have hnot : ¬ num ∈ (pe.take k).map Pd.num := by
      have e1 := take_snoc_map Pd.num hq
      have h2 : ((pe.take (k + 1)).map Pd.num).Nodup := by rw [List.map_take]; exact hnd.sublist (List.take_sublist _ _)
      rw [e1, List.nodup_append] at h2
      exact fun hm => h2.2.2 _ hm num (by simp) rfl
    simp only at hs
    have hs2 := (SetM.put hs hnot ck)
    rw [← take_snoc_map Pd.num hq] at hs2
    replace hs2 := Lib.hid hs2
    clear hnd hnot hs hqm
    repeat' (first
    | refine AW_seq_kn fun K hK => ?_
    | refine AW_block ?_
    | (refine does_mapUpdateC (n := n7) (enc := kU) (l := lo) (c := ck) (M := M0) (k := num) (v := .bool true) kkU (.inl rfl) (by simp only [push_cast, seval, *]) (by simp only [push_cast, seval, *]) tU59 (by simp only [push_cast, seval, *]; exact IsK.c _) (by simp only [push_cast, seval, *]; exact IsK.c _) ?_; (try simp only [push_cast, seval, *]))
    | (refine does_call rfl rfl ?_; simp only [push_cast, seval, *]; refine ACall.monoP (wakes22_p _) ?_; (try simp only [push_cast, seval, *]))
    | ((first
      | refine AW_region_draw (id := 28) E0 (fun f => [].contains f) dLZU0 dAZU0 mixed (by kernel_rfl) ?_
      | refine AW_region E0 ?_ | refine AW_ret ?_ | refine AW_exit ?_ | refine AW_skip ?_ | unfold retQ); try simp only [push_cast, seval, *])
    | ((first | (apply AW_cond; (case hc => (simp only [push_cast, seval]; rfl))) | (apply ER_guard; (case hb => (simp only [push_cast, seval]; rfl)))); all_goals ((intro hc; first | (exfalso; simp only [push_cast, seval, *] at hc; done) | (exact absurd hc (by decide)) | ((try first | rw [Bool.not_true] at hc | rw [Bool.not_false] at hc); first | (with_reducible replace hc := tTT hc); clear hc | (with_reducible replace hc := tFF hc); clear hc | (have hp := hc; try simp only [decide_eq_true_eq, decide_eq_false_iff_not, bA, bB, bC, bD, bE, bF, bG, bH] at hp))) <;> try simp only [push_cast, seval, *]))
    | (refine Kn.go hK ?_; clear hK K)
    | refine Kn.go (by assumption) ?_
    | (intro n hn; (try simp only [upd_none2, join_none_iff, ite_none, ne_eq] at hn); (try simp only [push_cast, seval, *]))
    | (intro hc)
    | (apply ER_blk; (case hp => rfl); (case hb => (simp only [push_cast, seval]; rfl)); (case hd => (simp only [push_cast, seval]; done)); (case h => (intro hc; simp only [push_cast, seval, *]; rfl)); simp only [push_cast, seval, *])
    | fail)
    exact ⟨(_, mclk num lo ck), unhid hs2, by (first | trivial | (simp only [push_cast, seval, *]; done)), by
      (repeat' (first | exact Heap.le_refl _ | refine hle_upd2 ?_ _ _ | (refine Heap.le_new ?_ ?_; rotate_left 1; focus (first | assumption | (simp only [upd_none2, upd_get, ne_eq, push_cast, seval, *]; done) | (simp [upd_get, *]; done)))))
      all_goals rfl⟩
  · rintro ⟨lo, ck⟩ hs
    rw [List.take_length] at hs
    simp only at hs
    replace hs := Lib.hid hs
    repeat' (first
    | (refine AW_atB (id := 13) ?_)
    | refine AW_seq_kn fun K hK => ?_
    | refine AW_block ?_
    | (refine does_call rfl rfl ?_; simp only [push_cast, seval, *]; refine ACall.monoP (wakes22_p _) ?_; (try simp only [push_cast, seval, *]))
    | ((first
      | refine AW_region_draw (id := 28) E0 (fun f => [].contains f) dLZU0 dAZU0 mixed (by kernel_rfl) ?_
      | refine AW_region E0 ?_ | refine AW_ret ?_ | refine AW_exit ?_ | refine AW_skip ?_ | unfold retQ); try simp only [push_cast, seval, *])
    | ((first | (apply AW_cond; (case hc => (simp only [push_cast, seval]; rfl))) | (apply ER_guard; (case hb => (simp only [push_cast, seval]; rfl)))); all_goals ((intro hc; first | (exfalso; simp only [push_cast, seval, *] at hc; done) | (exact absurd hc (by decide)) | ((try first | rw [Bool.not_true] at hc | rw [Bool.not_false] at hc); first | (with_reducible replace hc := tTT hc); clear hc | (with_reducible replace hc := tFF hc); clear hc | (have hp := hc; try simp only [decide_eq_true_eq, decide_eq_false_iff_not, bA, bB, bC, bD, bE, bF, bG, bH] at hp))) <;> try simp only [push_cast, seval, *]))
    | (refine Kn.go hK ?_; clear hK K)
    | refine Kn.go (by assumption) ?_
    | (intro n hn; (try simp only [upd_none2, join_none_iff, ite_none, ne_eq] at hn); (try simp only [push_cast, seval, *]))
    | (intro hc)
    | (apply ER_blk; (case hp => rfl); (case hb => (simp only [push_cast, seval]; rfl)); (case hd => (simp only [push_cast, seval]; done)); (case h => (intro hc; simp only [push_cast, seval, *]; rfl)); simp only [push_cast, seval, *])
    | fail)
    refine ⟨?_⟩
    refine AW_seqC [] H ?_ ?_
    · repeat' (first
    | refine AW_seq_kn fun K hK => ?_
    | refine AW_block ?_
    | (refine does_call rfl rfl ?_; simp only [push_cast, seval, *]; refine ACall.monoP (wakes22_p _) ?_; (try simp only [push_cast, seval, *]))
    | ((first
      | refine AW_region_draw (id := 28) E0 (fun f => [].contains f) dLZU0 dAZU0 mixed (by kernel_rfl) ?_
      | refine AW_region E0 ?_ | refine AW_ret ?_ | refine AW_exit ?_ | refine AW_skip ?_ | unfold retQ); try simp only [push_cast, seval, *])
    | ((first | (apply AW_cond; (case hc => (simp only [push_cast, seval]; rfl))) | (apply ER_guard; (case hb => (simp only [push_cast, seval]; rfl)))); all_goals ((intro hc; first | (exfalso; simp only [push_cast, seval, *] at hc; done) | (exact absurd hc (by decide)) | ((try first | rw [Bool.not_true] at hc | rw [Bool.not_false] at hc); first | (with_reducible replace hc := tTT hc); clear hc | (with_reducible replace hc := tFF hc); clear hc | (have hp := hc; try simp only [decide_eq_true_eq, decide_eq_false_iff_not, bA, bB, bC, bD, bE, bF, bG, bH] at hp))) <;> try simp only [push_cast, seval, *]))
    | (refine Kn.go hK ?_; clear hK K)
    | refine Kn.go (by assumption) ?_
    | (intro n hn; (try simp only [upd_none2, join_none_iff, ite_none, ne_eq] at hn); (try simp only [push_cast, seval, *]))
    | (intro hc)
    | (apply ER_blk; (case hp => rfl); (case hb => (simp only [push_cast, seval]; rfl)); (case hd => (simp only [push_cast, seval]; done)); (case h => (intro hc; simp only [push_cast, seval, *]; rfl)); simp only [push_cast, seval, *])
    | fail)
      refine AW_loopX (σ := Cd × List (ME Int) × Nat) l.length (fun k s => cdOk s.1 = true ∧ s.1.fits ∧ SetM (nums s.1) s.2.1) (fun k s => [(5, .p n5 6 0 0), (6, .c (.int .u64 (numS s.1.epoch s.1.counter))), (7, .c (.map (some n7))), (41, .l 8 (l.map Op22.av)), (42, ci l.length), (43, ci k)]) (fun _ st => upd (upd H n5 (.r 30 6 1 [[.c (.int .u64 st.1.epoch), .c (.int .u64 st.1.counter), .c (.int .i64 st.1.tasks), .c (.int .i64 st.1.attempt), .c (.int .i64 st.1.span), .l 4 (st.1.pend.map Pd.av)]])) n7 (bm kU st.2.1 st.2.2 M0)) (⟨e, k0, t, a, s, pe⟩, lo, ck) ⟨unhid hco, unhid hfit, unhid hs⟩ ?_ ?_ ?_ ?_
      · (first | trivial | (simp only [push_cast, seval, *]; done))
      · (repeat' (first | exact Heap.le_refl _ | refine hle_upd2 ?_ _ _ | (refine Heap.le_new ?_ ?_; rotate_left 1; focus (first | assumption | (simp only [upd_none2, upd_get, ne_eq, push_cast, seval, *]; done) | (simp [upd_get, *]; done)))))
      · clear hco hfit hs hch hpl h1 hHc hn75
        clear e k0 t a s pe lo ck
        rintro k ⟨c, lo, ck⟩ hk ⟨hco, hfit, hs⟩
        have ho := List.getElem?_eq_getElem (l := l) hk; generalize l[k] = o at ho; have hom := List.mem_of_getElem? ho; have hkl : (k : Int) < l.length := (by omega); have hkw : IntKind.i64.wrap ((k : Int) + 1) = (k : Int) + 1 := wrap_i64 (by omega) (by omega)
        have hog := unhid hl2 o hom
        clear hom
        simp only at hco hfit hs
        by_cases hi : (k : Int) = 40
        · have hl40 : (40 : Int) < l.length := by omega
          have ho40 : l[40]? = some o := by have e40 : k = 40 := by omega
                                            rw [← e40]; exact ho
          repeat' (first
    | refine AW_seq_kn fun K hK => ?_
    | refine AW_block ?_
    | (refine does_call rfl rfl ?_; simp only [push_cast, seval, *]; refine ACall.monoP (wakes22_p _) ?_; (try simp only [push_cast, seval, *]))
    | ((first
      | refine AW_region_draw (id := 28) E0 (fun f => [].contains f) dLZU0 dAZU0 mixed (by kernel_rfl) ?_
      | refine AW_region E0 ?_ | refine AW_ret ?_ | refine AW_exit ?_ | refine AW_skip ?_ | unfold retQ); try simp only [push_cast, seval, *])
    | ((first | (apply AW_cond; (case hc => (simp only [push_cast, seval]; rfl))) | (apply ER_guard; (case hb => (simp only [push_cast, seval]; rfl)))); all_goals ((intro hc; first | (exfalso; simp only [push_cast, seval, *] at hc; done) | (exact absurd hc (by decide)) | ((try first | rw [Bool.not_true] at hc | rw [Bool.not_false] at hc); first | (with_reducible replace hc := tTT hc); clear hc | (with_reducible replace hc := tFF hc); clear hc | (have hp := hc; try simp only [decide_eq_true_eq, decide_eq_false_iff_not, bA, bB, bC, bD, bE, bF, bG, bH] at hp))) <;> try simp only [push_cast, seval, *]))
    | (refine Kn.go hK ?_; clear hK K)
    | refine Kn.go (by assumption) ?_
    | (intro n hn; (try simp only [upd_none2, join_none_iff, ite_none, ne_eq] at hn); (try simp only [push_cast, seval, *]))
    | (intro hc)
    | (apply ER_blk; (case hp => rfl); (case hb => (simp only [push_cast, seval]; rfl)); (case hd => (simp only [push_cast, seval]; done)); (case h => (intro hc; simp only [push_cast, seval, *]; rfl)); simp only [push_cast, seval, *])
    | fail)
          exact ⟨trivial, by first | trivial | (first | trivial | (simp only [push_cast, seval, *]; done)), by first | trivial | (repeat' (first | exact Heap.le_refl _ | refine hle_upd2 ?_ _ _ | (refine Heap.le_new ?_ ?_; rotate_left 1; focus (first | assumption | (simp only [upd_none2, upd_get, ne_eq, push_cast, seval, *]; done) | (simp [upd_get, *]; done)))))⟩
        have hpl : c.pend.length ≤ maxLen := by have := (cdOk_bd hco).1; unfold maxLen; omega
        obtain ⟨kd, oat, onow, osv, ots, oan, ⟨ota, obs⟩⟩ := o
        have hav : Op22.av ⟨kd, oat, onow, osv, ots, oan, ⟨ota, obs⟩⟩ = [.c (.int .i64 kd), .c (.int .i64 oat), .c (.int .i64 onow), .c (.bool osv), .c (.int .i64 ots), .c (.int .i64 oan), .c (.int .i64 ota), .l 1 (obs.map by1)] := rfl
        have hnu := number_p ⟨kd, oat, onow, osv, ots, oan, ⟨ota, obs⟩⟩ c hpl
        have hru := run_g ⟨kd, oat, onow, osv, ots, oan, ⟨ota, obs⟩⟩ hog.2.2.2.2.2.2.1 c hpl hfit
        have hst := run_ok hco hfit ⟨kd, oat, onow, osv, ots, oan, ⟨ota, obs⟩⟩
        have hkb := kdS_bd ⟨kd, oat, onow, osv, ots, oan, ⟨ota, obs⟩⟩
        obtain ⟨U, hU⟩ : ∃ U, IntKind.u64.wrap kd = U := ⟨_, rfl⟩
        have hkd : kdS ⟨kd, oat, onow, osv, ots, oan, ⟨ota, obs⟩⟩ = U.tmod 10 := by rw [← hU]; rfl
        rw [hkd] at hkb
        simp only [newO, goneO, overO, hkd] at hst
        clear hkd
        have hnl : ∀ q ∈ nums c, q ≤ numS c.epoch c.counter := fun q hq => by
          obtain ⟨r, hr, rfl⟩ := List.mem_map.1 hq
          exact num_le hco hfit hr
        generalize numO ⟨kd, oat, onow, osv, ots, oan, ⟨ota, obs⟩⟩ c = nn at *
        generalize runS ⟨kd, oat, onow, osv, ots, oan, ⟨ota, obs⟩⟩ c = T at *
        obtain ⟨⟨te, tk, tt, ta, tsp, tp⟩, tn, tal, tac, tgo, ter⟩ := T
        simp only [Cd.av, Told.cl, hav] at hnu hru
        simp only at hst
        replace hru := Lib.hid hru
        replace hst := Lib.hid hst
        replace hs := Lib.hid hs
        replace hfit := Lib.hid hfit
        replace hco := Lib.hid hco
        replace hnl := Lib.hid hnl
        clear hog hl2
        repeat' (first
    | refine AW_seq_kn fun K hK => ?_
    | refine AW_block ?_
    | (refine does_call rfl rfl ?_; simp only [push_cast, seval, *]; refine ACall.monoP (hnu _) ?_; (try simp only [push_cast, seval, *]))
    | (refine does_call rfl rfl ?_; simp only [push_cast, seval, *]; refine ACall.monoP (wakes22_p _) ?_; (try simp only [push_cast, seval, *]))
    | ((first
      | refine AW_region_draw (id := 28) E0 (fun f => [].contains f) dLZU0 dAZU0 mixed (by kernel_rfl) ?_
      | refine AW_region E0 ?_ | refine AW_ret ?_ | refine AW_exit ?_ | refine AW_skip ?_ | unfold retQ); try simp only [push_cast, seval, *])
    | ((first | (apply AW_cond; (case hc => (simp only [push_cast, seval]; rfl))) | (apply ER_guard; (case hb => (simp only [push_cast, seval]; rfl)))); all_goals ((intro hc; first | (exfalso; simp only [push_cast, seval, *] at hc; done) | (exact absurd hc (by decide)) | ((try first | rw [Bool.not_true] at hc | rw [Bool.not_false] at hc); first | (with_reducible replace hc := tTT hc); clear hc | (with_reducible replace hc := tFF hc); clear hc | (have hp := hc; try simp only [decide_eq_true_eq, decide_eq_false_iff_not, bA, bB, bC, bD, bE, bF, bG, bH] at hp))) <;> try simp only [push_cast, seval, *]))
    | (refine Kn.go hK ?_; clear hK K)
    | refine Kn.go (by assumption) ?_
    | (intro n hn; (try simp only [upd_none2, join_none_iff, ite_none, ne_eq] at hn); (try simp only [push_cast, seval, *]))
    | (intro hc)
    | (apply ER_blk; (case hp => rfl); (case hb => (simp only [push_cast, seval]; rfl)); (case hd => (simp only [push_cast, seval]; done)); (case h => (intro hc; simp only [push_cast, seval, *]; rfl)); simp only [push_cast, seval, *])
    | fail)
        generalize n = n11 at *
        have hn11 : H n11 = none := hn.2.2
        obtain ⟨Gs, hGs⟩ : ∃ Gs : Heap, Gs = upd (upd (upd H n5 (.r 30 6 1 [[.c (.int .u64 c.epoch), .c (.int .u64 c.counter), .c (.int .i64 c.tasks), .c (.int .i64 c.attempt), .c (.int .i64 c.span), .l 4 (c.pend.map Pd.av)]])) n7 (bm kU lo ck M0)) n11 (.r 49 8 1 [[.c (.int .i64 kd), .c (.int .i64 oat), .c (.int .i64 onow), .c (.bool osv), .c (.int .i64 ots), .c (.int .i64 oan), .c (.int .i64 ota), .l 1 (obs.map by1)]]) := ⟨_, rfl⟩
        have g5 : Gs n5 = some (.r 30 6 1 [[.c (.int .u64 c.epoch), .c (.int .u64 c.counter), .c (.int .i64 c.tasks), .c (.int .i64 c.attempt), .c (.int .i64 c.span), .l 4 (c.pend.map Pd.av)]]) := by rw [hGs]; simp only [push_cast, seval, upd_get, *]
        have g7 : Gs n7 = some (bm kU lo ck M0) := by rw [hGs]; simp only [push_cast, seval, upd_get, *]
        have g11 : Gs n11 = some (.r 49 8 1 [[.c (.int .i64 kd), .c (.int .i64 oat), .c (.int .i64 onow), .c (.bool osv), .c (.int .i64 ots), .c (.int .i64 oan), .c (.int .i64 ota), .l 1 (obs.map by1)]]) := by rw [hGs]; exact upd_same _ _ _
        have hle0 : Heap.le (upd (upd H n5 (.r 30 6 1 [[.c (.int .u64 c.epoch), .c (.int .u64 c.counter), .c (.int .i64 c.tasks), .c (.int .i64 c.attempt), .c (.int .i64 c.span), .l 4 (c.pend.map Pd.av)]])) n7 (bm kU lo ck M0)) Gs := by rw [hGs]; (repeat' (first | exact Heap.le_refl _ | refine hle_upd2 ?_ _ _ | (refine Heap.le_new ?_ ?_; rotate_left 1; focus (first | assumption | (simp only [upd_none2, upd_get, ne_eq, push_cast, seval, *]; done) | (simp [upd_get, *]; done)))))
        have hleH : Heap.le H Gs := fun q b hq => by
          have q5 : q ≠ n5 := fun h => by rw [h, hn5] at hq; cases hq
          have q7 : q ≠ n7 := fun h => by rw [h, hn7] at hq; cases hq
          have q11 : q ≠ n11 := fun h => by rw [h, hn11] at hq; cases hq
          rw [hGs, upd_ne q11, upd_ne q7, upd_ne q5]; exact hq
        rw [← hGs]
        clear hGs hn
        replace hleH := Lib.hid hleH
        replace hle0 := Lib.hid hle0
        refine does_call rfl rfl ?_
        simp only [push_cast, seval, *]
        refine ACall.mono (unhid hru Gs) ?_
        rintro _ H' ⟨g, rfl, hg⟩
        have k5 := hg.get g5
        have k7 := hg.get g7
        have k11 := hg.get g11
        have o5 := ne_old k5
        have o7 := ne_old k7
        have o11 := ne_old k11
        have hgcs := hg.cs
        have hgone := hg.one
        have hgle : Heap.le Gs H' := (Loc.own g 25 1 _).le hg
        replace hg := Lib.hid hg
        replace hgle := Lib.hid hgle
        replace g5 := Lib.hid g5
        replace g7 := Lib.hid g7
        clear hru hnu g11 hn11
        by_cases he : ter = 0
        case neg =>
          (try simp only [push_cast, seval, *])
          repeat' (first
    | refine AW_seq_kn fun K hK => ?_
    | refine AW_block ?_
    | (refine does_call rfl rfl ?_; simp only [push_cast, seval, *]; refine ACall.monoP (wakes22_p _) ?_; (try simp only [push_cast, seval, *]))
    | ((first
      | refine AW_region_draw (id := 28) E0 (fun f => [].contains f) dLZU0 dAZU0 mixed (by kernel_rfl) ?_
      | refine AW_region E0 ?_ | refine AW_ret ?_ | refine AW_exit ?_ | refine AW_skip ?_ | unfold retQ); try simp only [push_cast, seval, *])
    | ((first | (apply AW_cond; (case hc => (simp only [push_cast, seval]; rfl))) | (apply ER_guard; (case hb => (simp only [push_cast, seval]; rfl)))); all_goals ((intro hc; first | (exfalso; simp only [push_cast, seval, *] at hc; done) | (exact absurd hc (by decide)) | ((try first | rw [Bool.not_true] at hc | rw [Bool.not_false] at hc); first | (with_reducible replace hc := tTT hc); clear hc | (with_reducible replace hc := tFF hc); clear hc | (have hp := hc; try simp only [decide_eq_true_eq, decide_eq_false_iff_not, bA, bB, bC, bD, bE, bF, bG, bH] at hp))) <;> try simp only [push_cast, seval, *]))
    | (refine Kn.go hK ?_; clear hK K)
    | refine Kn.go (by assumption) ?_
    | (intro n hn; (try simp only [upd_none2, join_none_iff, ite_none, ne_eq] at hn); (try simp only [push_cast, seval, *]))
    | (intro hc)
    | (apply ER_blk; (case hp => rfl); (case hb => (simp only [push_cast, seval]; rfl)); (case hd => (simp only [push_cast, seval]; done)); (case h => (intro hc; simp only [push_cast, seval, *]; rfl)); simp only [push_cast, seval, *])
    | fail)
          refine ⟨(c, lo, ck), ⟨unhid hco, unhid hfit, unhid hs⟩, by first | trivial | (first | trivial | (simp only [push_cast, seval, *]; done)), ?_⟩
          have hle1 := Heap.le_trans (unhid hleH) (unhid hgle)
          exact ⟨rfl, rfl, le_skip hle1 (le_no hle1 hn)⟩
        case pos =>
        subst he
        have hst2 := unhid hst rfl
        clear hst
        obtain ⟨⟨q1, q2, q3⟩, q4, q5⟩ := hst2
        have hct := Check_p ⟨te, tk, tt, ta, tsp, tp⟩ (by have := (cdOk_bd q1).1; simp only at this ⊢; unfold maxLen; omega) q2.2
        rw [q1] at hct
        simp only [Cd.av, if_true] at hct
        generalize hgn : (tgo ++ if (decide (U.tmod 10 = 5) || decide (U.tmod 10 = 7) || decide (U.tmod 10 = 8)) = true then [nn] else []) = gn at q3
        have hl3 : gn.length ≤ 3 := by
          have h1 := q3.length_eq
          have h2 := (cdOk_bd (unhid hco)).1
          simp only [List.length_append, List.length_map, nums] at h1
          have h3 : (if U.tmod 10 < 2 then [tn] else []).length ≤ 1 := by split <;> simp
          omega
        replace hgn := Lib.hid hgn
        replace q1 := Lib.hid q1
        replace q2 := Lib.hid q2
        replace q3 := Lib.hid q3
        replace q4 := Lib.hid q4
        replace q5 := Lib.hid q5
        (try simp only [push_cast, seval, *])
        repeat' (first
    | (refine AW_atB (id := 23) ?_)
    | refine AW_seq_kn fun K hK => ?_
    | refine AW_block ?_
    | (refine does_call rfl rfl ?_; simp only [push_cast, seval, *]; refine ACall.monoP (hct _) ?_; (try simp only [push_cast, seval, *]))
    | (refine does_call rfl rfl ?_; simp only [push_cast, seval, *]; refine ACall.monoP (wakes22_p _) ?_; (try simp only [push_cast, seval, *]))
    | ((first
      | refine AW_region_draw (id := 28) E0 (fun f => [].contains f) dLZU0 dAZU0 mixed (by kernel_rfl) ?_
      | refine AW_region E0 ?_ | refine AW_ret ?_ | refine AW_exit ?_ | refine AW_skip ?_ | unfold retQ); try simp only [push_cast, seval, *])
    | ((first | (apply AW_cond; (case hc => (simp only [push_cast, seval]; rfl))) | (apply ER_guard; (case hb => (simp only [push_cast, seval]; rfl)))); all_goals ((intro hc; first | (exfalso; simp only [push_cast, seval, *] at hc; done) | (exact absurd hc (by decide)) | ((try first | rw [Bool.not_true] at hc | rw [Bool.not_false] at hc); first | (with_reducible replace hc := tTT hc); clear hc | (with_reducible replace hc := tFF hc); clear hc | (have hp := hc; try simp only [decide_eq_true_eq, decide_eq_false_iff_not, bA, bB, bC, bD, bE, bF, bG, bH] at hp))) <;> try simp only [push_cast, seval, *]))
    | (refine Kn.go hK ?_; clear hK K)
    | refine Kn.go (by assumption) ?_
    | (intro n hn; (try simp only [upd_none2, join_none_iff, ite_none, ne_eq] at hn); (try simp only [push_cast, seval, *]))
    | (intro hc)
    | (apply ER_blk; (case hp => rfl); (case hb => (simp only [push_cast, seval]; rfl)); (case hd => (simp only [push_cast, seval]; done)); (case h => (intro hc; simp only [push_cast, seval, *]; rfl)); simp only [push_cast, seval, *])
    | fail)
        refine ⟨?_⟩
        generalize n = n13 at *
        have n13_5 := o5 n13 hn
        have n13_7 := o7 n13 hn
        have n13_11 := o11 n13 hn
        have hg13 : OwnL (upd H' n13 (.r 52 11 1 [[.c (.int .u64 te), .c (.int .u64 tk), .c (.int .i64 tt), .c (.int .i64 ta), .c (.int .i64 tsp), .l 4 (tp.map Pd.av), .c (.int .u64 tn), .c (.bool tal), .l 2 (tac.map Ak.av), g, .c (.int .i64 0)]])) g 25 1 (tgo.map iu) (upd Gs n13 (.r 52 11 1 [[.c (.int .u64 te), .c (.int .u64 tk), .c (.int .i64 tt), .c (.int .i64 ta), .c (.int .i64 tsp), .l 4 (tp.map Pd.av), .c (.int .u64 tn), .c (.bool tal), .l 2 (tac.map Ak.av), g, .c (.int .i64 0)]])) := (Loc.own g 25 1 (tgo.map iu)).new (unhid hg) hn _
        obtain ⟨tb, htb⟩ : ∃ tb : Blk, tb = .r 52 11 1 [[.c (.int .u64 te), .c (.int .u64 tk), .c (.int .i64 tt), .c (.int .i64 ta), .c (.int .i64 tsp), .l 4 (tp.map Pd.av), .c (.int .u64 tn), .c (.bool tal), .l 2 (tac.map Ak.av), g, .c (.int .i64 0)]] := ⟨_, rfl⟩
        have hg13e := Lib.hid hg13
        rw [← htb] at hg13
        have gs13 : Gs n13 = none := by
          cases hq : Gs n13 with
          | none => rfl
          | some b => rw [unhid hgle _ _ hq] at hn; cases hn
        have hB5 : ∀ m', (upd (upd Gs n13 tb) n7 m') n5 = some (.r 30 6 1 [[.c (.int .u64 c.epoch), .c (.int .u64 c.counter), .c (.int .i64 c.tasks), .c (.int .i64 c.attempt), .c (.int .i64 c.span), .l 4 (c.pend.map Pd.av)]]) := fun m' => by
          rw [upd_ne n57, upd_ne (of_eq_false n13_5.1)]; exact unhid g5
        have hBH : ∀ m', Heap.le H (upd (upd Gs n13 tb) n7 m') := fun m' q b hq => by
          have q7 : q ≠ n7 := fun h => by rw [h, hn7] at hq; cases hq
          have q13 : q ≠ n13 := fun h => by rw [h] at hq; rw [unhid hleH _ _ hq] at gs13; cases gs13
          rw [upd_ne q7, upd_ne q13]; exact unhid hleH _ _ hq
        have hB13 : ∀ m', (upd (upd Gs n13 tb) n7 m') n13 = some tb := fun m' => by rw [upd_ne (of_eq_false n13_7.2), upd_same]
        have hC7 : (upd Gs n13 tb) n7 = some (bm kU lo ck M0) := by rw [upd_ne (of_eq_false n13_7.1)]; exact unhid g7
        have hself : upd (upd Gs n13 tb) n7 (bm kU lo ck M0) = upd Gs n13 tb := upd_self hC7
        replace hB5 := Lib.hid hB5
        replace hBH := Lib.hid hBH
        replace hB13 := Lib.hid hB13
        replace hC7 := Lib.hid hC7
        replace hself := Lib.hid hself
        replace hg13 := Lib.hid hg13
        replace gs13 := Lib.hid gs13
        replace htb := Lib.hid htb
        clear g5 g7
        refine AW_seqX (σ := AV × List (ME Int) × Nat × Heap × Heap) (fun st => OwnL st.2.2.2.1 st.1 25 1 (gn.map iu) st.2.2.2.2 ∧ SetM (gn ++ nums ⟨te, tk, tt, ta, tsp, tp⟩) st.2.1 ∧ st.2.2.2.2 n5 = some (.r 30 6 1 [[.c (.int .u64 c.epoch), .c (.int .u64 c.counter), .c (.int .i64 c.tasks), .c (.int .i64 c.attempt), .c (.int .i64 c.span), .l 4 (c.pend.map Pd.av)]]) ∧ st.2.2.2.2 n7 = some (bm kU st.2.1 st.2.2.1 M0) ∧ st.2.2.2.2 n13 = some tb ∧ Heap.le H st.2.2.2.2)
          (fun st => [(5, .p n5 6 0 0), (6, .c (.int .u64 (numS te tk))), (7, .c (.map (some n7))), (13, .p n13 11 0 0), (14, st.1), (41, .l 8 (l.map Op22.av)), (42, ci l.length), (43, ci k)]) (fun st => st.2.2.2.1) ?_ ?_
        · have hcs : U.tmod 10 < 2 ∨ (U.tmod 10 = 5 ∨ U.tmod 10 = 7 ∨ U.tmod 10 = 8) ∨ (¬ U.tmod 10 = 0 ∧ ¬ U.tmod 10 = 1 ∧ ¬ U.tmod 10 = 5 ∧ ¬ U.tmod 10 = 7 ∧ ¬ U.tmod 10 = 8) := by omega
          rcases hcs with hkk | hkk | ⟨e0, e1, e5, e7, e8⟩
          · obtain ⟨r1, r2, r3, r4⟩ := unhid q4 hkk
            have hgn2 := unhid hgn
            have hq3 := unhid q3
            rw [if_pos hkk] at hq3
            rw [r4, r3] at hgn2
            simp only [Bool.false_eq_true, if_false, List.append_nil] at hgn2
            have hlt : decide (tn ≤ numS c.epoch c.counter) = false := by rw [decide_eq_false_iff_not]; omega
            have hnot : ¬ tn ∈ nums c := fun hm => by have := unhid hnl tn hm; omega
            have hlk := (unhid hs).v tn
            rw [decide_eq_false hnot] at hlk
            have hput := ((unhid hs).put hnot ck).to hq3
            have hmw := (unhid hs).mw
            have hcs2 : U.tmod 10 = 0 ∨ U.tmod 10 = 1 := by omega
            clear hq3 hgn2 hnot q4 q5 hkk hkb r4
            replace hput := Lib.hid hput
            replace hmw := Lib.hid hmw
            replace hlk := Lib.hid hlk
            replace r2 := Lib.hid r2
            replace r1 := Lib.hid r1
            replace r3 := Lib.hid r3
            rcases hcs2 with hkk | hkk
            all_goals
              repeat' (first
    | refine AW_seq_kn fun K hK => ?_
    | refine AW_block ?_
    | (refine does_lookupV (enc := kU) (n := n7) (l := lo) (c := ck) (M := M0) (k := tn) (z := .bool false) (zA := .c (.bool false)) kkU rfl (by simp only [push_cast, seval, *]) (by simp only [push_cast, seval, *]) (unhid hmw) tU59 zero_bool (fun _ => .c _) (by simp only [push_cast, seval, *]; exact IsK.c _) (unhid hlk) ?_; (try simp only [push_cast, seval, *]))
    | (refine does_mapUpdateC (n := n7) (enc := kU) (l := lo) (c := ck) (M := M0) (k := tn) (v := .bool true) kkU (.inl rfl) (by simp only [push_cast, seval, *]) (by simp only [push_cast, seval, *]) tU59 (by simp only [push_cast, seval, *]; exact IsK.c _) (by simp only [push_cast, seval, *]; exact IsK.c _) ?_; (try simp only [push_cast, seval, *]))
    | (refine does_call rfl rfl ?_; simp only [push_cast, seval, *]; refine ACall.monoP (wakes22_p _) ?_; (try simp only [push_cast, seval, *]))
    | ((first
      | refine AW_region_draw (id := 28) E0 (fun f => [].contains f) dLZU0 dAZU0 mixed (by kernel_rfl) ?_
      | refine AW_region E0 ?_ | refine AW_ret ?_ | refine AW_exit ?_ | refine AW_skip ?_ | unfold retQ); try simp only [push_cast, seval, *])
    | ((first | (apply AW_cond; (case hc => (simp only [push_cast, seval]; rfl))) | (apply ER_guard; (case hb => (simp only [push_cast, seval]; rfl)))); all_goals ((intro hc; first | (exfalso; simp only [push_cast, seval, *] at hc; done) | (exact absurd hc (by decide)) | ((try first | rw [Bool.not_true] at hc | rw [Bool.not_false] at hc); first | (with_reducible replace hc := tTT hc); clear hc | (with_reducible replace hc := tFF hc); clear hc | (have hp := hc; try simp only [decide_eq_true_eq, decide_eq_false_iff_not, bA, bB, bC, bD, bE, bF, bG, bH] at hp))) <;> try simp only [push_cast, seval, *]))
    | (refine Kn.go hK ?_; clear hK K)
    | refine Kn.go (by assumption) ?_
    | (intro n hn; (try simp only [upd_none2, join_none_iff, ite_none, ne_eq] at hn); (try simp only [push_cast, seval, *]))
    | (intro hc)
    | (apply ER_blk; (case hp => rfl); (case hb => (simp only [push_cast, seval]; rfl)); (case hd => (simp only [push_cast, seval]; done)); (case h => (intro hc; simp only [push_cast, seval, *]; rfl)); simp only [push_cast, seval, *])
    | fail)
              have r2u := unhid r2
              have hgt : gn = tgo := by have h1 := unhid hgn; rw [unhid r3, hkk] at h1; rw [unhid r3]; exact h1.symm
              refine ⟨(g, mput tn (.bool true) (.c (.bool true)) ck lo, mclk tn lo ck, upd (upd H' n13 tb) n7 (bm kU (mput tn (.bool true) (.c (.bool true)) ck lo) (mclk tn lo ck) M0), upd (upd Gs n13 tb) n7 (bm kU (mput tn (.bool true) (.c (.bool true)) ck lo) (mclk tn lo ck) M0)), ⟨?_, unhid hput, unhid hB5 _, upd_same _ _ _, unhid hB13 _, unhid hBH _⟩, by (first | trivial | (simp only [push_cast, seval, *]; done)), ?_⟩
              · rw [hgt]; exact (Loc.own g 25 1 (tgo.map iu)).turn (unhid hg13) (unhid hC7) _
              · rw [unhid htb]; exact Heap.le_refl _
          · have hgn2 := unhid hgn
            have hb : (decide (U.tmod 10 = 5) || decide (U.tmod 10 = 7) || decide (U.tmod 10 = 8)) = true := by rcases hkk with h | h | h <;> rw [h] <;> rfl
            rw [if_pos hb] at hgn2
            have hq3 := unhid q3
            have hnk : ¬ U.tmod 10 < 2 := by omega
            rw [if_neg hnk, List.append_nil] at hq3
            have hput := (unhid hs).to hq3
            have q5u := unhid q5 hnk
            have htl : tgo.length ≤ 3 := by rw [← hgn2] at hl3; simp at hl3; omega
            clear hnk hb hq3
            replace hput := Lib.hid hput
            replace hgn2 := Lib.hid hgn2
            replace q5u := Lib.hid q5u
            rcases hkk with hkk | hkk | hkk
            all_goals
              repeat' (first
    | refine AW_seq_kn fun K hK => ?_
    | refine AW_block ?_
    | (refine does_call rfl rfl ?_; simp only [push_cast, seval, *]; refine ACall.monoP (wakes22_p _) ?_; (try simp only [push_cast, seval, *]))
    | ((first
      | refine AW_region_draw (id := 28) E0 (fun f => [].contains f) dLZU0 dAZU0 mixed (by kernel_rfl) ?_
      | refine AW_region E0 ?_ | refine AW_ret ?_ | refine AW_exit ?_ | refine AW_skip ?_ | unfold retQ); try simp only [push_cast, seval, *])
    | ((first | (apply AW_cond; (case hc => (simp only [push_cast, seval]; rfl))) | (apply ER_guard; (case hb => (simp only [push_cast, seval]; rfl)))); all_goals ((intro hc; first | (exfalso; simp only [push_cast, seval, *] at hc; done) | (exact absurd hc (by decide)) | ((try first | rw [Bool.not_true] at hc | rw [Bool.not_false] at hc); first | (with_reducible replace hc := tTT hc); clear hc | (with_reducible replace hc := tFF hc); clear hc | (have hp := hc; try simp only [decide_eq_true_eq, decide_eq_false_iff_not, bA, bB, bC, bD, bE, bF, bG, bH] at hp))) <;> try simp only [push_cast, seval, *]))
    | (refine Kn.go hK ?_; clear hK K)
    | refine Kn.go (by assumption) ?_
    | (intro n hn; (try simp only [upd_none2, join_none_iff, ite_none, ne_eq] at hn); (try simp only [push_cast, seval, *]))
    | (intro hc)
    | (apply ER_blk; (case hp => rfl); (case hb => (simp only [push_cast, seval]; rfl)); (case hd => (simp only [push_cast, seval]; done)); (case h => (intro hc; simp only [push_cast, seval, *]; rfl)); simp only [push_cast, seval, *])
    | fail)
              refine does_app1 rfl rfl rfl rfl (unhid hg13e) (by simp only [upd_none2, push_cast, seval, *]) tE41 tS25 tB25 tZ25 rfl (by decide) ?_ ?_ ?_
              · simp only [List.length_map, maxLen]; omega
              · simp only [List.length_map]; omega
              intro z Hz hz
              have hzcs := hz.cs
              have hzone := hz.one
              rw [← unhid htb] at hz
              have e1 : (tgo.map iu) ++ [[AV.c (.int .u64 nn)]] = gn.map iu := by rw [← unhid hgn2]; simp [iu]
              rw [e1] at hz
              clear e1
              replace hz := Lib.hid hz
              (try simp only [push_cast, seval, *])
              repeat' (first
    | refine AW_seq_kn fun K hK => ?_
    | refine AW_block ?_
    | (refine does_call rfl rfl ?_; simp only [push_cast, seval, *]; refine ACall.monoP (wakes22_p _) ?_; (try simp only [push_cast, seval, *]))
    | ((first
      | refine AW_region_draw (id := 28) E0 (fun f => [].contains f) dLZU0 dAZU0 mixed (by kernel_rfl) ?_
      | refine AW_region E0 ?_ | refine AW_ret ?_ | refine AW_exit ?_ | refine AW_skip ?_ | unfold retQ); try simp only [push_cast, seval, *])
    | ((first | (apply AW_cond; (case hc => (simp only [push_cast, seval]; rfl))) | (apply ER_guard; (case hb => (simp only [push_cast, seval]; rfl)))); all_goals ((intro hc; first | (exfalso; simp only [push_cast, seval, *] at hc; done) | (exact absurd hc (by decide)) | ((try first | rw [Bool.not_true] at hc | rw [Bool.not_false] at hc); first | (with_reducible replace hc := tTT hc); clear hc | (with_reducible replace hc := tFF hc); clear hc | (have hp := hc; try simp only [decide_eq_true_eq, decide_eq_false_iff_not, bA, bB, bC, bD, bE, bF, bG, bH] at hp))) <;> try simp only [push_cast, seval, *]))
    | (refine Kn.go hK ?_; clear hK K)
    | refine Kn.go (by assumption) ?_
    | (intro n hn; (try simp only [upd_none2, join_none_iff, ite_none, ne_eq] at hn); (try simp only [push_cast, seval, *]))
    | (intro hc)
    | (apply ER_blk; (case hp => rfl); (case hb => (simp only [push_cast, seval]; rfl)); (case hd => (simp only [push_cast, seval]; done)); (case h => (intro hc; simp only [push_cast, seval, *]; rfl)); simp only [push_cast, seval, *])
    | fail)
              have q5uu := unhid q5u
              refine ⟨(z, lo, ck, Hz, upd Gs n13 tb), ⟨unhid hz, unhid hput, ?_, unhid hC7, upd_same _ _ _, ?_⟩, by (first | trivial | (simp only [push_cast, seval, *]; done)), Heap.le_refl _⟩
              · have h1 := unhid hB5 (bm kU lo ck M0); rw [unhid hself] at h1; exact h1
              · have h1 := unhid hBH (bm kU lo ck M0); rw [unhid hself] at h1; exact h1
          · have hgn2 := unhid hgn
            have hb : (decide (U.tmod 10 = 5) || decide (U.tmod 10 = 7) || decide (U.tmod 10 = 8)) = false := by rw [decide_eq_false e5, decide_eq_false e7, decide_eq_false e8]; rfl
            rw [hb] at hgn2
            simp only [Bool.false_eq_true, if_false, List.append_nil] at hgn2
            have hq3 := unhid q3
            have hnk : ¬ U.tmod 10 < 2 := by omega
            rw [if_neg hnk, List.append_nil] at hq3
            have hput := (unhid hs).to hq3
            have q5u := unhid q5 hnk
            clear hnk hb hq3
            replace hput := Lib.hid hput
            replace hgn2 := Lib.hid hgn2
            replace q5u := Lib.hid q5u
            repeat' (first
    | refine AW_seq_kn fun K hK => ?_
    | refine AW_block ?_
    | (refine does_call rfl rfl ?_; simp only [push_cast, seval, *]; refine ACall.monoP (wakes22_p _) ?_; (try simp only [push_cast, seval, *]))
    | ((first
      | refine AW_region_draw (id := 28) E0 (fun f => [].contains f) dLZU0 dAZU0 mixed (by kernel_rfl) ?_
      | refine AW_region E0 ?_ | refine AW_ret ?_ | refine AW_exit ?_ | refine AW_skip ?_ | unfold retQ); try simp only [push_cast, seval, *])
    | ((first | (apply AW_cond; (case hc => (simp only [push_cast, seval]; rfl))) | (apply ER_guard; (case hb => (simp only [push_cast, seval]; rfl)))); all_goals ((intro hc; first | (exfalso; simp only [push_cast, seval, *] at hc; done) | (exact absurd hc (by decide)) | ((try first | rw [Bool.not_true] at hc | rw [Bool.not_false] at hc); first | (with_reducible replace hc := tTT hc); clear hc | (with_reducible replace hc := tFF hc); clear hc | (have hp := hc; try simp only [decide_eq_true_eq, decide_eq_false_iff_not, bA, bB, bC, bD, bE, bF, bG, bH] at hp))) <;> try simp only [push_cast, seval, *]))
    | (refine Kn.go hK ?_; clear hK K)
    | refine Kn.go (by assumption) ?_
    | (intro n hn; (try simp only [upd_none2, join_none_iff, ite_none, ne_eq] at hn); (try simp only [push_cast, seval, *]))
    | (intro hc)
    | (apply ER_blk; (case hp => rfl); (case hb => (simp only [push_cast, seval]; rfl)); (case hd => (simp only [push_cast, seval]; done)); (case h => (intro hc; simp only [push_cast, seval, *]; rfl)); simp only [push_cast, seval, *])
    | fail)
            have q5uu := unhid q5u
            refine ⟨(g, lo, ck, upd H' n13 tb, upd Gs n13 tb), ⟨?_, unhid hput, ?_, unhid hC7, upd_same _ _ _, ?_⟩, by (first | trivial | (simp only [push_cast, seval, *]; done)), ?_⟩
            · rw [← unhid hgn2]; exact unhid hg13
            · have h1 := unhid hB5 (bm kU lo ck M0); rw [unhid hself] at h1; exact h1
            · have h1 := unhid hBH (bm kU lo ck M0); rw [unhid hself] at h1; exact h1
            · rw [unhid htb]; exact Heap.le_refl _
        · rintro ⟨z, lo2, ck2, G, B⟩ ⟨hz, hs2, b5, b7, b13, bH⟩
          simp only at hz hs2 b5 b7 b13 bH
          have j5 := hz.get b5
          have j7 := hz.get b7
          have j13 := hz.get b13
          rw [unhid htb] at j13
          have hGH : Heap.le H G := fun q b hq => hz.get (bH q b hq)
          have hzcs := hz.cs
          have hzone := hz.one
          have hzlen := hz.len
          rw [List.length_map] at hzlen
          have hmid : Heap.le (upd G n7 (bm kU lo2 ck2 M0)) G := by rw [upd_self j7]; exact Heap.le_refl _
          have p5 := of_eq_false n13_5.1
          have p5' := of_eq_false n13_5.2
          have p7 := of_eq_false n13_7.1
          have p7' := of_eq_false n13_7.2
          clear b5 b7 b13 bH hU hkb hn k5 k7 k11 o5 o7 o11 hgcs hgone hg hgle hct n13_5 n13_7 n13_11 hB5 hBH hB13 hC7 hself hg13 hg13e gs13 htb q3 q4 q5 hgn hs hfit hco hnl hleH hle0 hav ho hpl
          replace hz := Lib.hid hz
          replace hGH := Lib.hid hGH
          repeat' (first
    | refine AW_seq_kn fun K hK => ?_
    | refine AW_block ?_
    | (refine does_call rfl rfl ?_; simp only [push_cast, seval, *]; refine ACall.monoP (wakes22_p _) ?_; (try simp only [push_cast, seval, *]))
    | ((first
      | refine AW_region_draw (id := 28) E0 (fun f => [].contains f) dLZU0 dAZU0 mixed (by kernel_rfl) ?_
      | refine AW_region E0 ?_ | refine AW_ret ?_ | refine AW_exit ?_ | refine AW_skip ?_ | unfold retQ); try simp only [push_cast, seval, *])
    | ((first | (apply AW_cond; (case hc => (simp only [push_cast, seval]; rfl))) | (apply ER_guard; (case hb => (simp only [push_cast, seval]; rfl)))); all_goals ((intro hc; first | (exfalso; simp only [push_cast, seval, *] at hc; done) | (exact absurd hc (by decide)) | ((try first | rw [Bool.not_true] at hc | rw [Bool.not_false] at hc); first | (with_reducible replace hc := tTT hc); clear hc | (with_reducible replace hc := tFF hc); clear hc | (have hp := hc; try simp only [decide_eq_true_eq, decide_eq_false_iff_not, bA, bB, bC, bD, bE, bF, bG, bH] at hp))) <;> try simp only [push_cast, seval, *]))
    | (refine Kn.go hK ?_; clear hK K)
    | refine Kn.go (by assumption) ?_
    | (intro n hn; (try simp only [upd_none2, join_none_iff, ite_none, ne_eq] at hn); (try simp only [push_cast, seval, *]))
    | (intro hc)
    | (apply ER_blk; (case hp => rfl); (case hb => (simp only [push_cast, seval]; rfl)); (case hd => (simp only [push_cast, seval]; done)); (case h => (intro hc; simp only [push_cast, seval, *]; rfl)); simp only [push_cast, seval, *])
    | fail)
          refine AW_loopX (σ := List (ME Int) × Nat) gn.length (fun j s => SetM (gn.drop j ++ nums ⟨te, tk, tt, ta, tsp, tp⟩) s.1) (fun j s => [(5, .p n5 6 0 0), (6, .c (.int .u64 (numS te tk))), (7, .c (.map (some n7))), (13, .p n13 11 0 0), (41, .l 8 (l.map Op22.av)), (42, ci l.length), (43, ci k), (95, z), (96, ci gn.length), (97, ci j)]) (fun _ s => upd G n7 (bm kU s.1 s.2 M0)) (lo2, ck2) (by rw [List.drop_zero]; exact hs2) ?_ ?_ ?_ ?_
          · (first | trivial | (simp only [push_cast, seval, *]; done))
          · exact hmid
          · rintro j ⟨lo3, ck3⟩ hj hs3
            clear hs2 hmid
            simp only at hs3
            have hjk : (j : Int) < gn.length := by omega
            have hjw : IntKind.i64.wrap ((j : Int) + 1) = (j : Int) + 1 := wrap_i64 (by omega) (by omega)
            obtain ⟨v, hv⟩ : ∃ v, gn[j]? = some v := ⟨_, List.getElem?_eq_getElem hj⟩
            rw [drop_get hv, List.cons_append] at hs3
            have hrv : (gn.map iu)[j]? = some [.c (.int .u64 v)] := by rw [List.getElem?_map, hv]; rfl
            have hrl : (gn.map iu).length = gn.length := List.length_map ..
            rcases (unhid hz).split with ⟨ad, -, e2, -⟩ | ⟨m, cap, e1, e2, e3⟩
            · rw [List.map_eq_nil_iff] at e2; rw [e2] at hj; simp at hj
            have hGm : G m = some (.r 25 1 cap (gn.map iu)) := by rw [e2]; exact upd_same _ _ _
            have hm7 : ¬ m = n7 := fun h => by rw [h, j7] at hGm; cases hGm
            have hm7' : ¬ n7 = m := fun h => hm7 h.symm
            subst e1
            clear e2 e3 hz
            generalize gn.map iu = RR at *
            have hlk := hs3.v v
            rw [decide_eq_true (List.mem_cons_self ..)] at hlk
            have hmw := hs3.mw
            have hdel := hs3.del
            clear hs3
            replace hlk := Lib.hid hlk
            replace hmw := Lib.hid hmw
            replace hdel := Lib.hid hdel
            repeat' (first
    | refine AW_seq_kn fun K hK => ?_
    | refine AW_block ?_
    | (refine does_lookupV (enc := kU) (n := n7) (l := lo3) (c := ck3) (M := M0) (k := v) (z := .bool false) (zA := .c (.bool false)) kkU rfl (by simp only [push_cast, seval, *]) (by simp only [push_cast, seval, *]) (unhid hmw) tU59 zero_bool (fun _ => .c _) (by simp only [push_cast, seval, *]; exact IsK.c _) (unhid hlk) ?_; (try simp only [push_cast, seval, *]))
    | (refine does_mapDelete (enc := kU) (n := n7) (l := lo3) (c := ck3) (M := M0) (k := v) kkU rfl (by simp only [push_cast, seval, *]) (by simp only [push_cast, seval, *]) tU59 (by simp only [push_cast, seval, *]; exact IsK.c _) ?_; (try simp only [push_cast, seval, *]))
    | (refine does_call rfl rfl ?_; simp only [push_cast, seval, *]; refine ACall.monoP (wakes22_p _) ?_; (try simp only [push_cast, seval, *]))
    | ((first
      | refine AW_region_draw (id := 28) E0 (fun f => [].contains f) dLZU0 dAZU0 mixed (by kernel_rfl) ?_
      | refine AW_region E0 ?_ | refine AW_ret ?_ | refine AW_exit ?_ | refine AW_skip ?_ | unfold retQ); try simp only [push_cast, seval, *])
    | ((first | (apply AW_cond; (case hc => (simp only [push_cast, seval]; rfl))) | (apply ER_guard; (case hb => (simp only [push_cast, seval]; rfl)))); all_goals ((intro hc; first | (exfalso; simp only [push_cast, seval, *] at hc; done) | (exact absurd hc (by decide)) | ((try first | rw [Bool.not_true] at hc | rw [Bool.not_false] at hc); first | (with_reducible replace hc := tTT hc); clear hc | (with_reducible replace hc := tFF hc); clear hc | (have hp := hc; try simp only [decide_eq_true_eq, decide_eq_false_iff_not, bA, bB, bC, bD, bE, bF, bG, bH] at hp))) <;> try simp only [push_cast, seval, *]))
    | (refine Kn.go hK ?_; clear hK K)
    | refine Kn.go (by assumption) ?_
    | (intro n hn; (try simp only [upd_none2, join_none_iff, ite_none, ne_eq] at hn); (try simp only [push_cast, seval, *]))
    | (intro hc)
    | (apply ER_blk; (case hp => rfl); (case hb => (simp only [push_cast, seval]; rfl)); (case hd => (simp only [push_cast, seval]; done)); (case h => (intro hc; simp only [push_cast, seval, *]; rfl)); simp only [push_cast, seval, *])
    | fail)
            exact ⟨(mdel v lo3, ck3), unhid hdel, by (first | trivial | (simp only [push_cast, seval, *]; done)), by
              (repeat' (first | exact Heap.le_refl _ | refine hle_upd2 ?_ _ _ | (refine Heap.le_new ?_ ?_; rotate_left 1; focus (first | assumption | (simp only [upd_none2, upd_get, ne_eq, push_cast, seval, *]; done) | (simp [upd_get, *]; done)))))
              all_goals rfl⟩
          · rintro ⟨lo3, ck3⟩ hs3
            simp only [List.drop_length, List.nil_append] at hs3
            have hll : lo3.length = tp.length := by rw [hs3.len]; simp [nums]
            clear hs2 hmid
            replace hs3 := Lib.hid hs3
            repeat' (first
    | refine AW_seq_kn fun K hK => ?_
    | refine AW_block ?_
    | (refine does_lenM (enc := kU) (n := n7) (l := lo3) (c := ck3) (M := M0) rfl (by simp only [push_cast, seval, *]) (by simp only [push_cast, seval, *]) tU59 ?_; (try simp only [push_cast, seval, *]))
    | (refine does_call rfl rfl ?_; simp only [push_cast, seval, *]; refine ACall.monoP (wakes22_p _) ?_; (try simp only [push_cast, seval, *]))
    | ((first
      | refine AW_region_draw (id := 28) E0 (fun f => [].contains f) dLZU0 dAZU0 mixed (by kernel_rfl) ?_
      | refine AW_region E0 ?_ | refine AW_ret ?_ | refine AW_exit ?_ | refine AW_skip ?_ | unfold retQ); try simp only [push_cast, seval, *])
    | ((first | (apply AW_cond; (case hc => (simp only [push_cast, seval]; rfl))) | (apply ER_guard; (case hb => (simp only [push_cast, seval]; rfl)))); all_goals ((intro hc; first | (exfalso; simp only [push_cast, seval, *] at hc; done) | (exact absurd hc (by decide)) | ((try first | rw [Bool.not_true] at hc | rw [Bool.not_false] at hc); first | (with_reducible replace hc := tTT hc); clear hc | (with_reducible replace hc := tFF hc); clear hc | (have hp := hc; try simp only [decide_eq_true_eq, decide_eq_false_iff_not, bA, bB, bC, bD, bE, bF, bG, bH] at hp))) <;> try simp only [push_cast, seval, *]))
    | (refine Kn.go hK ?_; clear hK K)
    | refine Kn.go (by assumption) ?_
    | (intro n hn; (try simp only [upd_none2, join_none_iff, ite_none, ne_eq] at hn); (try simp only [push_cast, seval, *]))
    | (intro hc)
    | (apply ER_blk; (case hp => rfl); (case hb => (simp only [push_cast, seval]; rfl)); (case hd => (simp only [push_cast, seval]; done)); (case h => (intro hc; simp only [push_cast, seval, *]; rfl)); simp only [push_cast, seval, *])
    | fail)
            refine ⟨(⟨te, tk, tt, ta, tsp, tp⟩, lo3, ck3), ⟨unhid q1, unhid q2, unhid hs3⟩, by (first | trivial | (simp only [push_cast, seval, *]; done)), ?_⟩
            exact ⟨rfl, rfl, unhid hGH⟩
      · rintro ⟨c, lo', ck'⟩ -
        repeat' (first
    | refine AW_seq_kn fun K hK => ?_
    | refine AW_block ?_
    | (refine does_call rfl rfl ?_; simp only [push_cast, seval, *]; refine ACall.monoP (wakes22_p _) ?_; (try simp only [push_cast, seval, *]))
    | ((first
      | refine AW_region_draw (id := 28) E0 (fun f => [].contains f) dLZU0 dAZU0 mixed (by kernel_rfl) ?_
      | refine AW_region E0 ?_ | refine AW_ret ?_ | refine AW_exit ?_ | refine AW_skip ?_ | unfold retQ); try simp only [push_cast, seval, *])
    | ((first | (apply AW_cond; (case hc => (simp only [push_cast, seval]; rfl))) | (apply ER_guard; (case hb => (simp only [push_cast, seval]; rfl)))); all_goals ((intro hc; first | (exfalso; simp only [push_cast, seval, *] at hc; done) | (exact absurd hc (by decide)) | ((try first | rw [Bool.not_true] at hc | rw [Bool.not_false] at hc); first | (with_reducible replace hc := tTT hc); clear hc | (with_reducible replace hc := tFF hc); clear hc | (have hp := hc; try simp only [decide_eq_true_eq, decide_eq_false_iff_not, bA, bB, bC, bD, bE, bF, bG, bH] at hp))) <;> try simp only [push_cast, seval, *]))
    | (refine Kn.go hK ?_; clear hK K)
    | refine Kn.go (by assumption) ?_
    | (intro n hn; (try simp only [upd_none2, join_none_iff, ite_none, ne_eq] at hn); (try simp only [push_cast, seval, *]))
    | (intro hc)
    | (apply ER_blk; (case hp => rfl); (case hb => (simp only [push_cast, seval]; rfl)); (case hd => (simp only [push_cast, seval]; done)); (case h => (intro hc; simp only [push_cast, seval, *]; rfl)); simp only [push_cast, seval, *])
    | fail)
        exact ⟨trivial, trivial, trivial⟩
    · repeat' (first
    | refine AW_seq_kn fun K hK => ?_
    | refine AW_block ?_
    | (refine does_call rfl rfl ?_; simp only [push_cast, seval, *]; refine ACall.monoP (wakes22_p _) ?_; (try simp only [push_cast, seval, *]))
    | ((first
      | refine AW_region_draw (id := 28) E0 (fun f => [].contains f) dLZU0 dAZU0 mixed (by kernel_rfl) ?_
      | refine AW_region E0 ?_ | refine AW_ret ?_ | refine AW_exit ?_ | refine AW_skip ?_ | unfold retQ); try simp only [push_cast, seval, *])
    | ((first | (apply AW_cond; (case hc => (simp only [push_cast, seval]; rfl))) | (apply ER_guard; (case hb => (simp only [push_cast, seval]; rfl)))); all_goals ((intro hc; first | (exfalso; simp only [push_cast, seval, *] at hc; done) | (exact absurd hc (by decide)) | ((try first | rw [Bool.not_true] at hc | rw [Bool.not_false] at hc); first | (with_reducible replace hc := tTT hc); clear hc | (with_reducible replace hc := tFF hc); clear hc | (have hp := hc; try simp only [decide_eq_true_eq, decide_eq_false_iff_not, bA, bB, bC, bD, bE, bF, bG, bH] at hp))) <;> try simp only [push_cast, seval, *]))
    | (refine Kn.go hK ?_; clear hK K)
    | refine Kn.go (by assumption) ?_
    | (intro n hn; (try simp only [upd_none2, join_none_iff, ite_none, ne_eq] at hn); (try simp only [push_cast, seval, *]))
    | (intro hc)
    | (apply ER_blk; (case hp => rfl); (case hb => (simp only [push_cast, seval]; rfl)); (case hd => (simp only [push_cast, seval]; done)); (case h => (intro hc; simp only [push_cast, seval, *]; rfl)); simp only [push_cast, seval, *])
    | fail)
      exact ⟨_, _, Weak.refl _ _, rfl⟩
end Go.Proofs.Ytlbdpnlmdcajbaa
