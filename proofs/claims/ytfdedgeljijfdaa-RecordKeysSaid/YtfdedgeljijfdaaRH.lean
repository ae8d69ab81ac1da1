/- Walks: the row of bytes, the function. -/
import Derived.Test.YtfdedgeljijfdaaRG
namespace Go.Proofs.Ytfdedgeljijfdaa
open Go.RowKit
open Nat renaming reduceEqDiff → nA, reduceLT → nB, reduceLeDiff → nC, reduceAdd → nD, reduceMul → nE, reduceSub → nF, reduceBEq → nG
open Int renaming reduceToNat → iA, reduceLT → iB, reduceLE → iC, reduceEq → iD
open Bool renaming and_eq_true → bA, or_eq_true → bB, or_eq_false_iff → bC, and_eq_false_iff → bD, not_eq_true' → bE, not_eq_false' → bF, not_true → bG, not_false → bH
set_option linter.all false
set_option maxHeartbeats 4000000
attribute [local irreducible] AW Does ACall tE tS tB tZ
def dLRH0 : List En := [(0, false, []), (1, false, []), (2, false, []), (3, false, []), (4, false, []), (5, false, [])]
def dARH0 : List (List Nat) := [[], [0], [0, 1], [0, 1, 2], [], [0, 1, 2, 3, 4]]
attribute [push_cast] dLRH0

theorem decR_long {b : List Int} (h : 200 < gvX 1 b 0) : decR b = ([], 3) := if_pos h
theorem decR_short {b : List Int} {n : Nat} (hn : gvX 1 b 0 = n) (h : ¬ 200 < (n : Int)) (out : List El) (l : List Int) (e w : Int) (hd : decL n (gvL 1 b 0) (gvE 1 b 0) (needW 0 (gvE 1 b 0) true) [] = (out, l, e, w)) (x : Int) (hx : needW w e (decide ((l.length : Int) = 0)) = x) : decR b = if x = 0 then (out, 0) else ([], x) := by
  have hl : decide ((l.length : Int) = 0) = decide (l.length = 0) := by rw [decide_eq_decide]; omega
  rw [hl] at hx
  unfold decR
  rw [hn, if_neg h, Int.toNat_natCast, hd]
  simp only [hx]
structure S5 where
  l : List Int
  e : Int
  w : Int
  out : List El
  v : AV
  B : Heap
theorem Decode_g (b : List Int) (ho : octs b) (hbl : b.length ≤ 900000) (H : Heap) :
    ACall Try.prog 9 [.l 1 (b.map by1)] H fun r H' => ∃ v, r = .t [v, .c (.int .i64 (decR b).2)] ∧ OwnL H' v 37 5 ((decR b).1.map El.av) H := by
  have hrd := read_g b hbl
  have hb1 := gvX1_bd ho 0
  have hs1 : IntKind.i64.wrap (gvX 1 b 0) = gvX 1 b 0 := wrap_i64 (by omega) (by omega)
  have hll : b.length ≤ 1000000 := by omega
  have hu := fun m H hm => u8_g b ho 0 hll m H hm
  obtain ⟨N, hN⟩ : ∃ N : Nat, gvX 1 b 0 = N := ⟨(gvX 1 b 0).toNat, by omega⟩
  have ho1 := gvL_octs (nb := 1) (e := 0) ho
  have hl1 := Nat.le_trans (gvL_len 1 b 0) hbl
  obtain ⟨z, hz⟩ := zero_fn
  have hdl := @decR_long b
  have hds := @decR_short b N hN
  simp only [hN] at hs1 hu hb1 hdl
  generalize gvL 1 b 0 = l1 at *
  generalize gvE 1 b 0 = e1 at *
  generalize decR b = D at *
  replace hdl := Lib.hid hdl
  replace hds := Lib.hid hds
  replace hrd := Lib.hid hrd
  clear hN ho hbl hll
  refine ACall_of' Try.func9 rfl (Ent_of Try.func9 (by kernel_rfl) rfl) (by simp [Try.ntmps9]) ?_; simp only [Try.ntmps9, Try.results9]
  repeat' (first
    | refine AW_seq_kn fun K hK => ?_
    | refine AW_block ?_
    | ((first
      | refine AW_region_draw (id := 21) E0 (fun f => [].contains f) dLRH0 dARH0 mixed (by kernel_rfl) ?_
      | refine AW_region E0 ?_ | refine AW_ret ?_ | refine AW_exit ?_ | refine AW_skip ?_ | unfold retQ); try simp only [push_cast, seval, *])
    | (apply AW_cond; (case hc => (simp only [push_cast, seval]; rfl)); all_goals (intro hc; first | (exfalso; simp only [push_cast, seval, *] at hc; done) | (exact absurd hc (by decide)) | ((try first | rw [Bool.not_true] at hc | rw [Bool.not_false] at hc); first | (with_reducible replace hc := tTT hc); clear hc | (with_reducible replace hc := tFF hc); clear hc | (have hp := hc; try simp only [decide_eq_true_eq, decide_eq_false_iff_not, bA, bB, bC, bD, bE, bF, bG, bH] at hp))))
    | (refine Kn.go hK ?_; clear hK K)
    | refine Kn.go (by assumption) ?_
    | (intro n hn; (try simp only [upd_none2, join_none_iff, ite_none, ne_eq] at hn); (try simp only [push_cast, seval, *]))
    | (intro hc)
    | fail)
  refine does_call rfl rfl ?_
  simp only [push_cast, seval, *]
  refine ACall.mono (unhid hrd _) ?_
  rintro _ _ ⟨m, rfl, hm, rfl⟩
  clear hrd
  (try simp only [push_cast, seval, *])
  repeat' (first
    | refine AW_seq_kn fun K hK => ?_
    | refine AW_block ?_
    | ((first
      | refine AW_region_draw (id := 21) E0 (fun f => [].contains f) dLRH0 dARH0 mixed (by kernel_rfl) ?_
      | refine AW_region E0 ?_ | refine AW_ret ?_ | refine AW_exit ?_ | refine AW_skip ?_ | unfold retQ); try simp only [push_cast, seval, *])
    | (apply AW_cond; (case hc => (simp only [push_cast, seval]; rfl)); all_goals (intro hc; first | (exfalso; simp only [push_cast, seval, *] at hc; done) | (exact absurd hc (by decide)) | ((try first | rw [Bool.not_true] at hc | rw [Bool.not_false] at hc); first | (with_reducible replace hc := tTT hc); clear hc | (with_reducible replace hc := tFF hc); clear hc | (have hp := hc; try simp only [decide_eq_true_eq, decide_eq_false_iff_not, bA, bB, bC, bD, bE, bF, bG, bH] at hp))))
    | (refine Kn.go hK ?_; clear hK K)
    | refine Kn.go (by assumption) ?_
    | (intro n hn; (try simp only [upd_none2, join_none_iff, ite_none, ne_eq] at hn); (try simp only [push_cast, seval, *]))
    | (intro hc)
    | fail)
  generalize n = q at *
  obtain ⟨⟨hqm, hmq⟩, hHq⟩ := hn
  rw [show upd (upd H m (rdE b 0)) q (Blk.r 59 2 1 [[.p m 2 0 0, .c (.int .i64 0)]]) = st H m q b 0 0 from rfl]
  have hQ : ∀ H l e w, st H m q l e w q = some (.r 59 2 1 [[.p m 2 0 0, .c (.int .i64 w)]]) := fun H l e w => st_q H m q l e w
  have hu1 := hu m (st H m q b 0 0) (st_m hmq _ _ _)
  rw [st_um hmq] at hu1
  clear hu
  refine does_call rfl rfl ?_
  simp only [push_cast, seval, *]
  refine ACall.mono hu1 ?_
  (rintro _ _ ⟨rfl, e2⟩; have e3 := e2.symm; clear e2; subst e3)
  clear hu1
  by_cases h200 : (200 : Int) < N
  · have hD := unhid hdl h200
    clear hdl hds
    subst hD
    (try simp only [push_cast, seval, *])
    repeat' (first
    | refine AW_seq_kn fun K hK => ?_
    | refine AW_block ?_
    | ((first
      | refine AW_region_draw (id := 21) E0 (fun f => [].contains f) dLRH0 dARH0 mixed (by kernel_rfl) ?_
      | refine AW_region E0 ?_ | refine AW_ret ?_ | refine AW_exit ?_ | refine AW_skip ?_ | unfold retQ); try simp only [push_cast, seval, *])
    | (apply AW_cond; (case hc => (simp only [push_cast, seval]; rfl)); all_goals (intro hc; first | (exfalso; simp only [push_cast, seval, *] at hc; done) | (exact absurd hc (by decide)) | ((try first | rw [Bool.not_true] at hc | rw [Bool.not_false] at hc); first | (with_reducible replace hc := tTT hc); clear hc | (with_reducible replace hc := tFF hc); clear hc | (have hp := hc; try simp only [decide_eq_true_eq, decide_eq_false_iff_not, bA, bB, bC, bD, bE, bF, bG, bH] at hp))))
    | (refine Kn.go hK ?_; clear hK K)
    | refine Kn.go (by assumption) ?_
    | (intro n hn; (try simp only [upd_none2, join_none_iff, ite_none, ne_eq] at hn); (try simp only [push_cast, seval, *]))
    | (intro hc)
    | fail)
    exact ⟨_, _, Weak.less (Heap.le_new (Heap.le_new (Heap.le_refl _) hm) hHq), _, rfl, OwnL.nil _ _ _⟩
  replace hds := Lib.hid (unhid hds h200)
  clear hdl
  have hne := need_g l1 e1 0 true m q (st H m q l1 e1 0) (st_m hmq _ _ _) (st_q _ _ _ _ _ _)
  rw [st_uq] at hne
  generalize needW 0 e1 true = w1 at *
  (try simp only [push_cast, seval, *])
  repeat' (first
    | refine AW_seq_kn fun K hK => ?_
    | refine AW_block ?_
    | ((first
      | refine AW_region_draw (id := 21) E0 (fun f => [].contains f) dLRH0 dARH0 mixed (by kernel_rfl) ?_
      | refine AW_region E0 ?_ | refine AW_ret ?_ | refine AW_exit ?_ | refine AW_skip ?_ | unfold retQ); try simp only [push_cast, seval, *])
    | (apply AW_cond; (case hc => (simp only [push_cast, seval]; rfl)); all_goals (intro hc; first | (exfalso; simp only [push_cast, seval, *] at hc; done) | (exact absurd hc (by decide)) | ((try first | rw [Bool.not_true] at hc | rw [Bool.not_false] at hc); first | (with_reducible replace hc := tTT hc); clear hc | (with_reducible replace hc := tFF hc); clear hc | (have hp := hc; try simp only [decide_eq_true_eq, decide_eq_false_iff_not, bA, bB, bC, bD, bE, bF, bG, bH] at hp))))
    | (refine Kn.go hK ?_; clear hK K)
    | refine Kn.go (by assumption) ?_
    | (intro n hn; (try simp only [upd_none2, join_none_iff, ite_none, ne_eq] at hn); (try simp only [push_cast, seval, *]))
    | (intro hc)
    | fail)
  refine does_call rfl rfl ?_
  simp only [push_cast, seval, *]
  refine ACall.mono hne ?_
  rintro _ _ rfl
  clear hne
  (try simp only [push_cast, seval, *])
  repeat' (first
    | refine AW_seq_kn fun K hK => ?_
    | refine AW_block ?_
    | ((first
      | refine AW_region_draw (id := 21) E0 (fun f => [].contains f) dLRH0 dARH0 mixed (by kernel_rfl) ?_
      | refine AW_region E0 ?_ | refine AW_ret ?_ | refine AW_exit ?_ | refine AW_skip ?_ | unfold retQ); try simp only [push_cast, seval, *])
    | (apply AW_cond; (case hc => (simp only [push_cast, seval]; rfl)); all_goals (intro hc; first | (exfalso; simp only [push_cast, seval, *] at hc; done) | (exact absurd hc (by decide)) | ((try first | rw [Bool.not_true] at hc | rw [Bool.not_false] at hc); first | (with_reducible replace hc := tTT hc); clear hc | (with_reducible replace hc := tFF hc); clear hc | (have hp := hc; try simp only [decide_eq_true_eq, decide_eq_false_iff_not, bA, bB, bC, bD, bE, bF, bG, bH] at hp))))
    | (refine Kn.go hK ?_; clear hK K)
    | refine Kn.go (by assumption) ?_
    | (intro n hn; (try simp only [upd_none2, join_none_iff, ite_none, ne_eq] at hn); (try simp only [push_cast, seval, *]))
    | (intro hc)
    | fail)
  refine does_makeMap kI rfl ?_
  intro n6 hn6
  obtain ⟨h6m, h6q⟩ := st_none hn6
  have hN6 : ∀ H l e w, st H m q l e w n6 = H n6 := fun H l e w => st_n h6m h6q l e w
  rw [hN6] at hn6
  rw [st_un h6m h6q]
  rw [show bm kI ([] : List (ME Int)) 0 M0 = bm kI [] 0 M0 from rfl]
  (try simp only [push_cast, seval, *])
  repeat' (first
    | refine AW_seq_kn fun K hK => ?_
    | refine AW_block ?_
    | ((first
      | refine AW_region_draw (id := 21) E0 (fun f => [].contains f) dLRH0 dARH0 mixed (by kernel_rfl) ?_
      | refine AW_region E0 ?_ | refine AW_ret ?_ | refine AW_exit ?_ | refine AW_skip ?_ | unfold retQ); try simp only [push_cast, seval, *])
    | (apply AW_cond; (case hc => (simp only [push_cast, seval]; rfl)); all_goals (intro hc; first | (exfalso; simp only [push_cast, seval, *] at hc; done) | (exact absurd hc (by decide)) | ((try first | rw [Bool.not_true] at hc | rw [Bool.not_false] at hc); first | (with_reducible replace hc := tTT hc); clear hc | (with_reducible replace hc := tFF hc); clear hc | (have hp := hc; try simp only [decide_eq_true_eq, decide_eq_false_iff_not, bA, bB, bC, bD, bE, bF, bG, bH] at hp))))
    | (refine Kn.go hK ?_; clear hK K)
    | refine Kn.go (by assumption) ?_
    | (intro n hn; (try simp only [upd_none2, join_none_iff, ite_none, ne_eq] at hn); (try simp only [push_cast, seval, *]))
    | (intro hc)
    | fail)
  refine does_mapUpdateP (n := n6) (enc := kI) (l := []) (c := 0) (M := M0) (k := 1) (y := fnV 30 q) kkI (.inr rfl) (by simp only [push_cast, seval, *]) (by rw [hN6, upd_same]) tU63 (by simp only [push_cast, seval, *]; exact IsK.c _) (by simp only [push_cast, seval, *]) ?_
  intro u1 M1 hM1 hv1
  rw [st_un h6m h6q, upd_idem2]
  rw [show mput (1 : Int) u1 (fnV 30 q) 0 ([] : List (ME Int)) = [⟨1, u1, fnV 30 q, 0⟩] from rfl]
  (try simp only [push_cast, seval, *])
  repeat' (first
    | refine AW_seq_kn fun K hK => ?_
    | refine AW_block ?_
    | ((first
      | refine AW_region_draw (id := 21) E0 (fun f => [].contains f) dLRH0 dARH0 mixed (by kernel_rfl) ?_
      | refine AW_region E0 ?_ | refine AW_ret ?_ | refine AW_exit ?_ | refine AW_skip ?_ | unfold retQ); try simp only [push_cast, seval, *])
    | (apply AW_cond; (case hc => (simp only [push_cast, seval]; rfl)); all_goals (intro hc; first | (exfalso; simp only [push_cast, seval, *] at hc; done) | (exact absurd hc (by decide)) | ((try first | rw [Bool.not_true] at hc | rw [Bool.not_false] at hc); first | (with_reducible replace hc := tTT hc); clear hc | (with_reducible replace hc := tFF hc); clear hc | (have hp := hc; try simp only [decide_eq_true_eq, decide_eq_false_iff_not, bA, bB, bC, bD, bE, bF, bG, bH] at hp))))
    | (refine Kn.go hK ?_; clear hK K)
    | refine Kn.go (by assumption) ?_
    | (intro n hn; (try simp only [upd_none2, join_none_iff, ite_none, ne_eq] at hn); (try simp only [push_cast, seval, *]))
    | (intro hc)
    | fail)
  refine does_mapUpdateP (n := n6) (enc := kI) (l := [⟨1, u1, fnV 30 q, 0⟩]) (c := 1) (M := M1) (k := 2) (y := fnV 31 q) kkI (.inr rfl) (by simp only [push_cast, seval, *]) (by rw [hN6, upd_same]; rfl) tU63 (by simp only [push_cast, seval, *]; exact IsK.c _) (by simp only [push_cast, seval, *]) ?_
  intro u2 M2 hM2 hv2
  rw [st_un h6m h6q, upd_idem2]
  rw [show mput (2 : Int) u2 (fnV 31 q) 1 [⟨1, u1, fnV 30 q, 0⟩] = [⟨1, u1, fnV 30 q, 0⟩, ⟨2, u2, fnV 31 q, 1⟩] from rfl]
  (try simp only [push_cast, seval, *])
  repeat' (first
    | refine AW_seq_kn fun K hK => ?_
    | refine AW_block ?_
    | ((first
      | refine AW_region_draw (id := 21) E0 (fun f => [].contains f) dLRH0 dARH0 mixed (by kernel_rfl) ?_
      | refine AW_region E0 ?_ | refine AW_ret ?_ | refine AW_exit ?_ | refine AW_skip ?_ | unfold retQ); try simp only [push_cast, seval, *])
    | (apply AW_cond; (case hc => (simp only [push_cast, seval]; rfl)); all_goals (intro hc; first | (exfalso; simp only [push_cast, seval, *] at hc; done) | (exact absurd hc (by decide)) | ((try first | rw [Bool.not_true] at hc | rw [Bool.not_false] at hc); first | (with_reducible replace hc := tTT hc); clear hc | (with_reducible replace hc := tFF hc); clear hc | (have hp := hc; try simp only [decide_eq_true_eq, decide_eq_false_iff_not, bA, bB, bC, bD, bE, bF, bG, bH] at hp))))
    | (refine Kn.go hK ?_; clear hK K)
    | refine Kn.go (by assumption) ?_
    | (intro n hn; (try simp only [upd_none2, join_none_iff, ite_none, ne_eq] at hn); (try simp only [push_cast, seval, *]))
    | (intro hc)
    | fail)
  refine does_mapUpdateP (n := n6) (enc := kI) (l := [⟨1, u1, fnV 30 q, 0⟩, ⟨2, u2, fnV 31 q, 1⟩]) (c := 2) (M := M2) (k := 3) (y := fnV 32 q) kkI (.inr rfl) (by simp only [push_cast, seval, *]) (by rw [hN6, upd_same]; rfl) tU63 (by simp only [push_cast, seval, *]; exact IsK.c _) (by simp only [push_cast, seval, *]) ?_
  intro u3 M3 hM3 hv3
  rw [st_un h6m h6q, upd_idem2]
  rw [show mput (3 : Int) u3 (fnV 32 q) 2 [⟨1, u1, fnV 30 q, 0⟩, ⟨2, u2, fnV 31 q, 1⟩] = rdM q u1 u2 u3 from rfl]
  obtain ⟨c3, hc3⟩ : ∃ c, c = mclk (3 : Int) [⟨1, u1, fnV 30 q, 0⟩, ⟨2, u2, fnV 31 q, 1⟩] 2 := ⟨_, rfl⟩
  rw [← hc3]
  clear hc3
  have hW : MW M3 (rdM q u1 u2 u3) := by
    intro x hx
    simp only [rdM, List.mem_cons, List.not_mem_nil, or_false] at hx
    rcases hx with rfl | rfl | rfl
    · exact (hv1.mono hM2).mono hM3
    · exact hv2.mono hM3
    · exact hv3
  obtain ⟨H1, hH1⟩ : ∃ H1, H1 = upd H n6 (bm kI (rdM q u1 u2 u3) c3 M3) := ⟨_, rfl⟩
  have hle1 : Heap.le H H1 := by rw [hH1]; exact Heap.le_new (Heap.le_refl _) hn6
  have h16 : H1 n6 = some (bm kI (rdM q u1 u2 u3) c3 M3) := by rw [hH1, upd_same]
  rw [← hH1]
  clear hH1 hn6 hv1 hv2 hv3 hM1 hM2 hM3
  (try simp only [push_cast, seval, *])
  repeat' (first
    | (refine AW_atB (id := 8) ?_)
    | refine AW_seq_kn fun K hK => ?_
    | refine AW_block ?_
    | ((first
      | refine AW_region_draw (id := 21) E0 (fun f => [].contains f) dLRH0 dARH0 mixed (by kernel_rfl) ?_
      | refine AW_region E0 ?_ | refine AW_ret ?_ | refine AW_exit ?_ | refine AW_skip ?_ | unfold retQ); try simp only [push_cast, seval, *])
    | (apply AW_cond; (case hc => (simp only [push_cast, seval]; rfl)); all_goals (intro hc; first | (exfalso; simp only [push_cast, seval, *] at hc; done) | (exact absurd hc (by decide)) | ((try first | rw [Bool.not_true] at hc | rw [Bool.not_false] at hc); first | (with_reducible replace hc := tTT hc); clear hc | (with_reducible replace hc := tFF hc); clear hc | (have hp := hc; try simp only [decide_eq_true_eq, decide_eq_false_iff_not, bA, bB, bC, bD, bE, bF, bG, bH] at hp))))
    | (refine Kn.go hK ?_; clear hK K)
    | refine Kn.go (by assumption) ?_
    | (intro n hn; (try simp only [upd_none2, join_none_iff, ite_none, ne_eq] at hn); (try simp only [push_cast, seval, *]))
    | (intro hc)
    | fail)
  refine ⟨?_⟩
  refine AW_seqS (σ := S5) (fun s => OwnL (st s.B m q s.l s.e s.w) s.v 37 5 (s.out.map El.av) (st H1 m q s.l s.e s.w) ∧ decL N l1 e1 w1 [] = (s.out, s.l, s.e, s.w) ∧ s.l.length ≤ 900000) (fun s => [(4, .p q 2 0 0), (7, s.v)]) (fun s => st s.B m q s.l s.e s.w) ?_ ?_
  · obtain ⟨R, hR⟩ : ∃ R, R = decL N l1 e1 w1 [] := ⟨_, rfl⟩
    rw [← hR]
    replace hR := Lib.hid hR
    clear hds
    repeat' (first
    | refine AW_seq_kn fun K hK => ?_
    | refine AW_block ?_
    | ((first
      | refine AW_region_draw (id := 21) E0 (fun f => [].contains f) dLRH0 dARH0 mixed (by kernel_rfl) ?_
      | refine AW_region E0 ?_ | refine AW_ret ?_ | refine AW_exit ?_ | refine AW_skip ?_ | unfold retQ); try simp only [push_cast, seval, *])
    | (apply AW_cond; (case hc => (simp only [push_cast, seval]; rfl)); all_goals (intro hc; first | (exfalso; simp only [push_cast, seval, *] at hc; done) | (exact absurd hc (by decide)) | ((try first | rw [Bool.not_true] at hc | rw [Bool.not_false] at hc); first | (with_reducible replace hc := tTT hc); clear hc | (with_reducible replace hc := tFF hc); clear hc | (have hp := hc; try simp only [decide_eq_true_eq, decide_eq_false_iff_not, bA, bB, bC, bD, bE, bF, bG, bH] at hp))))
    | (refine Kn.go hK ?_; clear hK K)
    | refine Kn.go (by assumption) ?_
    | (intro n hn; (try simp only [upd_none2, join_none_iff, ite_none, ne_eq] at hn); (try simp only [push_cast, seval, *]))
    | (intro hc)
    | fail)
    refine AW_loopX (σ := S5) N (fun k s => octs s.l ∧ s.l.length ≤ 900000 ∧ s.out.length ≤ k ∧ decL (N - k) s.l s.e s.w s.out = R ∧ OwnL (st s.B m q s.l s.e s.w) s.v 37 5 (s.out.map El.av) (st H1 m q s.l s.e s.w)) (fun k s => [(4, .p q 2 0 0), (6, .c (.map (some n6))), (7, s.v), (34, ci N), (35, ci k)]) (fun _ s => st s.B m q s.l s.e s.w) ⟨l1, e1, w1, [], .c (.slice none 0 0), H1⟩ ⟨ho1, hl1, Nat.le_refl _, (unhid hR).symm, OwnL.nil _ _ _⟩ ?_ ?_ ?_ ?_
    · (first | trivial | (simp only [push_cast, seval, *]; done))
    · (first | trivial | ((simp only [push_cast, seval, *]); repeat' (first | rfl | exact Heap.le_refl _ | refine And.intro ?_ ?_)) | rfl | exact ⟨rfl, rfl⟩ | exact ⟨rfl, rfl, rfl⟩ | exact Heap.le_refl _)
    · rintro k ⟨l, e, w, out, v, B⟩ hk ⟨hol, hll, hout, hdec, hown⟩
      have hkl : (k : Int) < N := (by omega); have hkw : IntKind.i64.wrap ((k : Int) + 1) = (k : Int) + 1 := wrap_i64 (by omega) (by omega)
      simp only at hol hll hout hdec hown
      obtain ⟨j, hj⟩ : ∃ j, N - k = j + 1 := ⟨N - k - 1, by omega⟩
      have hj2 : N - (k + 1) = j := by omega
      rw [hj, decL] at hdec
      rw [hj2]
      have hbk := gvX1_bd hol e
      have hsk : IntKind.i64.wrap (gvX 1 l e) = gvX 1 l e := wrap_i64 (by omega) (by omega)
      have hu := u8_g l hol e (by omega) m (st B m q l e w) (st_m hmq _ _ _)
      rw [st_um hmq] at hu
      have ho2 := gvL_octs (nb := 1) (e := e) hol
      have hl2 := Nat.le_trans (gvL_len 1 l e) hll
      have hown2 := own_st hmq hown (gvL 1 l e) (gvE 1 l e) (needW w (gvE 1 l e) (there (gvX 1 l e)))
      obtain ⟨y, hy1, hy2⟩ := rd_look (gvX 1 l e) q u1 u2 u3
      have hne := need_g (gvL 1 l e) (gvE 1 l e) w (there (gvX 1 l e)) m q (st B m q (gvL 1 l e) (gvE 1 l e) w) (st_m hmq _ _ _) (st_q _ _ _ _ _ _)
      rw [st_uq] at hne
      have hB6 : B n6 = some (bm kI (rdM q u1 u2 u3) c3 M3) := by
        have h := hown.get (show st H1 m q l e w n6 = _ by rw [hN6]; exact h16)
        rw [hN6] at h; exact h
      have hcs := hown.cs
      generalize gvX 1 l e = kd at *
      generalize gvL 1 l e = l2 at *
      generalize gvE 1 l e = e2 at *
      generalize hok : there kd = ok at *
      generalize hw2 : needW w e2 ok = w2 at *
      replace hy1 := Lib.hid hy1
      replace hown2 := Lib.hid hown2
      replace hdec := Lib.hid hdec
      replace hy2 := Lib.hid hy2
      replace hne := Lib.hid hne
      replace hw2 := Lib.hid hw2
      replace hok := Lib.hid hok
      clear hown hol hbk hj hj2
      repeat' (first
    | refine AW_seq_kn fun K hK => ?_
    | refine AW_block ?_
    | ((first
      | refine AW_region_draw (id := 21) E0 (fun f => [].contains f) dLRH0 dARH0 mixed (by kernel_rfl) ?_
      | refine AW_region E0 ?_ | refine AW_ret ?_ | refine AW_exit ?_ | refine AW_skip ?_ | unfold retQ); try simp only [push_cast, seval, *])
    | (apply AW_cond; (case hc => (simp only [push_cast, seval]; rfl)); all_goals (intro hc; first | (exfalso; simp only [push_cast, seval, *] at hc; done) | (exact absurd hc (by decide)) | ((try first | rw [Bool.not_true] at hc | rw [Bool.not_false] at hc); first | (with_reducible replace hc := tTT hc); clear hc | (with_reducible replace hc := tFF hc); clear hc | (have hp := hc; try simp only [decide_eq_true_eq, decide_eq_false_iff_not, bA, bB, bC, bD, bE, bF, bG, bH] at hp))))
    | (refine Kn.go hK ?_; clear hK K)
    | refine Kn.go (by assumption) ?_
    | (intro n hn; (try simp only [upd_none2, join_none_iff, ite_none, ne_eq] at hn); (try simp only [push_cast, seval, *]))
    | (intro hc)
    | fail)
      refine does_call rfl rfl ?_
      simp only [push_cast, seval, *]
      refine ACall.mono hu ?_
      (rintro _ _ ⟨rfl, e2⟩; have e3 := e2.symm; clear e2; subst e3)
      clear hu
      (try simp only [push_cast, seval, *])
      repeat' (first
    | refine AW_seq_kn fun K hK => ?_
    | refine AW_block ?_
    | ((first
      | refine AW_region_draw (id := 21) E0 (fun f => [].contains f) dLRH0 dARH0 mixed (by kernel_rfl) ?_
      | refine AW_region E0 ?_ | refine AW_ret ?_ | refine AW_exit ?_ | refine AW_skip ?_ | unfold retQ); try simp only [push_cast, seval, *])
    | (apply AW_cond; (case hc => (simp only [push_cast, seval]; rfl)); all_goals (intro hc; first | (exfalso; simp only [push_cast, seval, *] at hc; done) | (exact absurd hc (by decide)) | ((try first | rw [Bool.not_true] at hc | rw [Bool.not_false] at hc); first | (with_reducible replace hc := tTT hc); clear hc | (with_reducible replace hc := tFF hc); clear hc | (have hp := hc; try simp only [decide_eq_true_eq, decide_eq_false_iff_not, bA, bB, bC, bD, bE, bF, bG, bH] at hp))))
    | (refine Kn.go hK ?_; clear hK K)
    | refine Kn.go (by assumption) ?_
    | (intro n hn; (try simp only [upd_none2, join_none_iff, ite_none, ne_eq] at hn); (try simp only [push_cast, seval, *]))
    | (intro hc)
    | fail)
      refine does_lookupG (n := n6) (enc := kI) (l := rdM q u1 u2 u3) (c := c3) (M := M3) (k := kd) (y := y) (b := ok) kkI rfl (by simp only [push_cast, seval, *]) (by rw [hN6]; exact hB6) hW tU63 hz (by simp only [push_cast, seval, *]; exact IsK.c _) (unhid hy1) ?_
      (try simp only [push_cast, seval, *])
      repeat' (first
    | refine AW_seq_kn fun K hK => ?_
    | refine AW_block ?_
    | ((first
      | refine AW_region_draw (id := 21) E0 (fun f => [].contains f) dLRH0 dARH0 mixed (by kernel_rfl) ?_
      | refine AW_region E0 ?_ | refine AW_ret ?_ | refine AW_exit ?_ | refine AW_skip ?_ | unfold retQ); try simp only [push_cast, seval, *])
    | (apply AW_cond; (case hc => (simp only [push_cast, seval]; rfl)); all_goals (intro hc; first | (exfalso; simp only [push_cast, seval, *] at hc; done) | (exact absurd hc (by decide)) | ((try first | rw [Bool.not_true] at hc | rw [Bool.not_false] at hc); first | (with_reducible replace hc := tTT hc); clear hc | (with_reducible replace hc := tFF hc); clear hc | (have hp := hc; try simp only [decide_eq_true_eq, decide_eq_false_iff_not, bA, bB, bC, bD, bE, bF, bG, bH] at hp))))
    | (refine Kn.go hK ?_; clear hK K)
    | refine Kn.go (by assumption) ?_
    | (intro n hn; (try simp only [upd_none2, join_none_iff, ite_none, ne_eq] at hn); (try simp only [push_cast, seval, *]))
    | (intro hc)
    | fail)
      refine does_call rfl rfl ?_
      simp only [push_cast, seval, *]
      refine ACall.mono (unhid hne) ?_
      rintro _ _ rfl
      clear hne
      by_cases h0 : w2 = 0
      · subst h0
        obtain ⟨rfl, rfl, rfl⟩ := needW_0 (unhid hw2)
        obtain ⟨f, u, c, hg, hcall⟩ := rd_call kd (unhid hok) l2 ho2 (by omega) m q hmq u1 u2 u3
        have hy := unhid hy2 f u c hg
        subst hy
        have hgood := rdS_good kd ho2
        replace hdec := unhid hdec
        rw [if_pos rfl] at hdec
        clear hy1 hy2 hw2 hok hg
        generalize rdS kd l2 0 0 = S at *
        obtain ⟨⟨x0, xs, xk, xv, xn⟩, l3, e3, w3⟩ := S
        simp only [El.av] at hcall hgood hdec
        have hl3 : l3.length ≤ 900000 := by omega
        have ho3 := hgood.1
        have hown3 := own_st hmq (unhid hown2) l3 e3 (needW w3 e3 true)
        have hn3 := fun G => need_g l3 e3 w3 true m q (st G m q l3 e3 w3) (st_m hmq _ _ _) (st_q _ _ _ _ _ _)
        simp only [st_uq] at hn3
        generalize needW w3 e3 true = w4 at *
        replace hdec := Lib.hid hdec
        replace hown3 := Lib.hid hown3
        replace hn3 := Lib.hid hn3
        clear hown2 ho2 hl2 hgood
        (try simp only [push_cast, seval, *])
        repeat' (first
    | refine AW_seq_kn fun K hK => ?_
    | refine AW_block ?_
    | ((first
      | refine AW_region_draw (id := 21) E0 (fun f => [].contains f) dLRH0 dARH0 mixed (by kernel_rfl) ?_
      | refine AW_region E0 ?_ | refine AW_ret ?_ | refine AW_exit ?_ | refine AW_skip ?_ | unfold retQ); try simp only [push_cast, seval, *])
    | (apply AW_cond; (case hc => (simp only [push_cast, seval]; rfl)); all_goals (intro hc; first | (exfalso; simp only [push_cast, seval, *] at hc; done) | (exact absurd hc (by decide)) | ((try first | rw [Bool.not_true] at hc | rw [Bool.not_false] at hc); first | (with_reducible replace hc := tTT hc); clear hc | (with_reducible replace hc := tFF hc); clear hc | (have hp := hc; try simp only [decide_eq_true_eq, decide_eq_false_iff_not, bA, bB, bC, bD, bE, bF, bG, bH] at hp))))
    | (refine Kn.go hK ?_; clear hK K)
    | refine Kn.go (by assumption) ?_
    | (intro n hn; (try simp only [upd_none2, join_none_iff, ite_none, ne_eq] at hn); (try simp only [push_cast, seval, *]))
    | (intro hc)
    | fail)
        refine does_call_f rfl (by simp only [push_cast, seval]; rfl) ?_
        simp only [push_cast, seval, *, List.append_nil, List.nil_append, List.cons_append]
        refine ACall.mono (hcall _) ?_
        (rintro _ _ ⟨rfl, e2⟩; have e3 := e2.symm; clear e2; subst e3)
        clear hcall
        (try simp only [push_cast, seval, *])
        repeat' (first
    | refine AW_seq_kn fun K hK => ?_
    | refine AW_block ?_
    | (intro nb hnb; obtain ⟨hb1, hb2⟩ := st_none hnb; have hbm : ¬ m = nb := (fun e => hb1 e.symm); have hbq : ¬ q = nb := (fun e => hb2 e.symm); have hNb : ∀ H l e w, st H m q l e w nb = H nb := (fun H l e w => st_n hb1 hb2 l e w); rw [st_un hb1 hb2]; (simp only [hNb] at hnb); (try simp only [push_cast, seval, *]))
    | ((first
      | refine AW_region_draw (id := 21) E0 (fun f => [].contains f) dLRH0 dARH0 mixed (by kernel_rfl) ?_
      | refine AW_region E0 ?_ | refine AW_ret ?_ | refine AW_exit ?_ | refine AW_skip ?_ | unfold retQ); try simp only [push_cast, seval, *])
    | (apply AW_cond; (case hc => (simp only [push_cast, seval]; rfl)); all_goals (intro hc; first | (exfalso; simp only [push_cast, seval, *] at hc; done) | (exact absurd hc (by decide)) | ((try first | rw [Bool.not_true] at hc | rw [Bool.not_false] at hc); first | (with_reducible replace hc := tTT hc); clear hc | (with_reducible replace hc := tFF hc); clear hc | (have hp := hc; try simp only [decide_eq_true_eq, decide_eq_false_iff_not, bA, bB, bC, bD, bE, bF, bG, bH] at hp))))
    | (refine Kn.go hK ?_; clear hK K)
    | refine Kn.go (by assumption) ?_
    | (intro n hn; (try simp only [upd_none2, join_none_iff, ite_none, ne_eq] at hn); (try simp only [push_cast, seval, *]))
    | (intro hc)
    | fail)
        rw [st_un hb1 hb2, upd_idem2]
        refine does_call rfl rfl ?_
        simp only [push_cast, seval, *]
        refine ACall.mono (unhid hn3 _) ?_
        rintro _ _ rfl
        clear hn3
        have hnb1 : H1 nb = none := by have h := (unhid hown3).none (m := nb) (by rw [hNb]; exact hnb); rw [hNb] at h; exact h
        have hown4 := (unhid hown3).new (m := nb) (by rw [hNb]; exact hnb) (.r 37 5 1 [[.c (.int .i64 kd), .c (.int .i64 xs), .c (.int .i64 xk), .c (.int .i64 xv), .c (.int .u64 xn)]])
        rw [st_un hb1 hb2, st_un hb1 hb2] at hown4
        replace hown4 := Lib.hid hown4
        clear hown3
        (try simp only [push_cast, seval, *])
        repeat' (first
    | refine AW_seq_kn fun K hK => ?_
    | refine AW_block ?_
    | ((first
      | refine AW_region_draw (id := 21) E0 (fun f => [].contains f) dLRH0 dARH0 mixed (by kernel_rfl) ?_
      | refine AW_region E0 ?_ | refine AW_ret ?_ | refine AW_exit ?_ | refine AW_skip ?_ | unfold retQ); try simp only [push_cast, seval, *])
    | (apply AW_cond; (case hc => (simp only [push_cast, seval]; rfl)); all_goals (intro hc; first | (exfalso; simp only [push_cast, seval, *] at hc; done) | (exact absurd hc (by decide)) | ((try first | rw [Bool.not_true] at hc | rw [Bool.not_false] at hc); first | (with_reducible replace hc := tTT hc); clear hc | (with_reducible replace hc := tFF hc); clear hc | (have hp := hc; try simp only [decide_eq_true_eq, decide_eq_false_iff_not, bA, bB, bC, bD, bE, bF, bG, bH] at hp))))
    | (refine Kn.go hK ?_; clear hK K)
    | refine Kn.go (by assumption) ?_
    | (intro n hn; (try simp only [upd_none2, join_none_iff, ite_none, ne_eq] at hn); (try simp only [push_cast, seval, *]))
    | (intro hc)
    | fail)
        refine does_append1 (unhid hown4) rfl rfl rfl hn tE24 tS37 tB37 tZ37 rfl (by decide) ?_ ?_ ?_
        · simp only [List.length_map, maxLen]; omega
        · simp only [List.length_map]; omega
        intro x' H' hown'
        have hcs' := hown'.cs
        have hleb : Heap.le (st H1 m q l3 e3 w4) (st (upd H1 nb (.r 37 5 1 [[.c (.int .i64 kd), .c (.int .i64 xs), .c (.int .i64 xk), .c (.int .i64 xv), .c (.int .u64 xn)]])) m q l3 e3 w4) := st_le (Heap.le_new (Heap.le_refl _) hnb1) _ _ _ _ _
        obtain ⟨H2, hle2, hown5⟩ := OwnL.cut hown' hleb
        have hself : st H2 m q l3 e3 w4 = H2 := st_self (hown5.get (st_m hmq _ _ _)) (hown5.get (st_q _ _ _ _ _ _))
        rw [← hself] at hown5 hle2
        replace hown5 := Lib.hid hown5
        clear hown' hown4 hleb hself
        (try simp only [push_cast, seval, *])
        repeat' (first
    | refine AW_seq_kn fun K hK => ?_
    | refine AW_block ?_
    | ((first
      | refine AW_region_draw (id := 21) E0 (fun f => [].contains f) dLRH0 dARH0 mixed (by kernel_rfl) ?_
      | refine AW_region E0 ?_ | refine AW_ret ?_ | refine AW_exit ?_ | refine AW_skip ?_ | unfold retQ); try simp only [push_cast, seval, *])
    | (apply AW_cond; (case hc => (simp only [push_cast, seval]; rfl)); all_goals (intro hc; first | (exfalso; simp only [push_cast, seval, *] at hc; done) | (exact absurd hc (by decide)) | ((try first | rw [Bool.not_true] at hc | rw [Bool.not_false] at hc); first | (with_reducible replace hc := tTT hc); clear hc | (with_reducible replace hc := tFF hc); clear hc | (have hp := hc; try simp only [decide_eq_true_eq, decide_eq_false_iff_not, bA, bB, bC, bD, bE, bF, bG, bH] at hp))))
    | (refine Kn.go hK ?_; clear hK K)
    | refine Kn.go (by assumption) ?_
    | (intro n hn; (try simp only [upd_none2, join_none_iff, ite_none, ne_eq] at hn); (try simp only [push_cast, seval, *]))
    | (intro hc)
    | fail)
        refine ⟨⟨l3, e3, w4, out ++ [⟨kd, xs, xk, xv, xn⟩], x', H2⟩, ⟨ho3, hl3, by simp; omega, unhid hdec, ?_⟩, by (first | trivial | (simp only [push_cast, seval, *]; done)), hle2⟩
        have h := unhid hown5
        simp only [List.map_append, List.map_cons, List.map_nil]
        exact h
      · (try simp only [push_cast, seval, *])
        repeat' (first
    | refine AW_seq_kn fun K hK => ?_
    | refine AW_block ?_
    | ((first
      | refine AW_region_draw (id := 21) E0 (fun f => [].contains f) dLRH0 dARH0 mixed (by kernel_rfl) ?_
      | refine AW_region E0 ?_ | refine AW_ret ?_ | refine AW_exit ?_ | refine AW_skip ?_ | unfold retQ); try simp only [push_cast, seval, *])
    | (apply AW_cond; (case hc => (simp only [push_cast, seval]; rfl)); all_goals (intro hc; first | (exfalso; simp only [push_cast, seval, *] at hc; done) | (exact absurd hc (by decide)) | ((try first | rw [Bool.not_true] at hc | rw [Bool.not_false] at hc); first | (with_reducible replace hc := tTT hc); clear hc | (with_reducible replace hc := tFF hc); clear hc | (have hp := hc; try simp only [decide_eq_true_eq, decide_eq_false_iff_not, bA, bB, bC, bD, bE, bF, bG, bH] at hp))))
    | (refine Kn.go hK ?_; clear hK K)
    | refine Kn.go (by assumption) ?_
    | (intro n hn; (try simp only [upd_none2, join_none_iff, ite_none, ne_eq] at hn); (try simp only [push_cast, seval, *]))
    | (intro hc)
    | fail)
        exact ⟨⟨l2, e2, w2, out, v, B⟩, ⟨unhid hown2, by rw [← unhid hdec, if_neg h0], hl2⟩, by (first | trivial | (simp only [push_cast, seval, *]; done)), Heap.le_refl _⟩
    · rintro ⟨l, e, w, out, v, B⟩ ⟨hol, hll, hout, hdec, hown⟩
      simp only at hol hll hout hdec hown
      rw [Nat.sub_self, decL] at hdec
      have hcs := hown.cs
      replace hown := Lib.hid hown
      clear hol hout
      repeat' (first
    | refine AW_seq_kn fun K hK => ?_
    | refine AW_block ?_
    | ((first
      | refine AW_region_draw (id := 21) E0 (fun f => [].contains f) dLRH0 dARH0 mixed (by kernel_rfl) ?_
      | refine AW_region E0 ?_ | refine AW_ret ?_ | refine AW_exit ?_ | refine AW_skip ?_ | unfold retQ); try simp only [push_cast, seval, *])
    | (apply AW_cond; (case hc => (simp only [push_cast, seval]; rfl)); all_goals (intro hc; first | (exfalso; simp only [push_cast, seval, *] at hc; done) | (exact absurd hc (by decide)) | ((try first | rw [Bool.not_true] at hc | rw [Bool.not_false] at hc); first | (with_reducible replace hc := tTT hc); clear hc | (with_reducible replace hc := tFF hc); clear hc | (have hp := hc; try simp only [decide_eq_true_eq, decide_eq_false_iff_not, bA, bB, bC, bD, bE, bF, bG, bH] at hp))))
    | (refine Kn.go hK ?_; clear hK K)
    | refine Kn.go (by assumption) ?_
    | (intro n hn; (try simp only [upd_none2, join_none_iff, ite_none, ne_eq] at hn); (try simp only [push_cast, seval, *]))
    | (intro hc)
    | fail)
      exact ⟨⟨l, e, w, out, v, B⟩, ⟨unhid hown, hdec.symm, hll⟩, by (first | trivial | (simp only [push_cast, seval, *]; done)), Heap.le_refl _⟩
  · rintro ⟨l, e, w, out, v, B⟩ ⟨hown, hdec, hll⟩
    simp only at hown hdec hll
    obtain ⟨x, hx⟩ : ∃ x, needW w e (decide ((l.length : Int) = 0)) = x := ⟨_, rfl⟩
    have hD := unhid hds out l e w hdec x hx
    have hlf := left_g l hll e m (st B m q l e w) (st_m hmq _ _ _)
    have hne := need_g l e w (decide ((l.length : Int) = 0)) m q (st B m q l e w) (st_m hmq _ _ _) (st_q _ _ _ _ _ _)
    rw [st_uq, hx] at hne
    have hown2 := own_st hmq hown l e x
    have hcs := hown.cs
    replace hown2 := Lib.hid hown2
    replace hD := Lib.hid hD
    clear hown hdec hx hds ho1 hl1
    repeat' (first
    | refine AW_seq_kn fun K hK => ?_
    | refine AW_block ?_
    | ((first
      | refine AW_region_draw (id := 21) E0 (fun f => [].contains f) dLRH0 dARH0 mixed (by kernel_rfl) ?_
      | refine AW_region E0 ?_ | refine AW_ret ?_ | refine AW_exit ?_ | refine AW_skip ?_ | unfold retQ); try simp only [push_cast, seval, *])
    | (apply AW_cond; (case hc => (simp only [push_cast, seval]; rfl)); all_goals (intro hc; first | (exfalso; simp only [push_cast, seval, *] at hc; done) | (exact absurd hc (by decide)) | ((try first | rw [Bool.not_true] at hc | rw [Bool.not_false] at hc); first | (with_reducible replace hc := tTT hc); clear hc | (with_reducible replace hc := tFF hc); clear hc | (have hp := hc; try simp only [decide_eq_true_eq, decide_eq_false_iff_not, bA, bB, bC, bD, bE, bF, bG, bH] at hp))))
    | (refine Kn.go hK ?_; clear hK K)
    | refine Kn.go (by assumption) ?_
    | (intro n hn; (try simp only [upd_none2, join_none_iff, ite_none, ne_eq] at hn); (try simp only [push_cast, seval, *]))
    | (intro hc)
    | fail)
    refine does_call rfl rfl ?_
    simp only [push_cast, seval, *]
    refine ACall.mono hlf ?_
    (rintro _ _ ⟨rfl, e2⟩; have e3 := e2.symm; clear e2; subst e3)
    (try simp only [push_cast, seval, *])
    repeat' (first
    | refine AW_seq_kn fun K hK => ?_
    | refine AW_block ?_
    | ((first
      | refine AW_region_draw (id := 21) E0 (fun f => [].contains f) dLRH0 dARH0 mixed (by kernel_rfl) ?_
      | refine AW_region E0 ?_ | refine AW_ret ?_ | refine AW_exit ?_ | refine AW_skip ?_ | unfold retQ); try simp only [push_cast, seval, *])
    | (apply AW_cond; (case hc => (simp only [push_cast, seval]; rfl)); all_goals (intro hc; first | (exfalso; simp only [push_cast, seval, *] at hc; done) | (exact absurd hc (by decide)) | ((try first | rw [Bool.not_true] at hc | rw [Bool.not_false] at hc); first | (with_reducible replace hc := tTT hc); clear hc | (with_reducible replace hc := tFF hc); clear hc | (have hp := hc; try simp only [decide_eq_true_eq, decide_eq_false_iff_not, bA, bB, bC, bD, bE, bF, bG, bH] at hp))))
    | (refine Kn.go hK ?_; clear hK K)
    | refine Kn.go (by assumption) ?_
    | (intro n hn; (try simp only [upd_none2, join_none_iff, ite_none, ne_eq] at hn); (try simp only [push_cast, seval, *]))
    | (intro hc)
    | fail)
    refine does_call rfl rfl ?_
    simp only [push_cast, seval, *]
    refine ACall.mono hne ?_
    rintro _ _ rfl
    clear hlf hne
    by_cases hx : x = 0
    · have hD2 := unhid hD
      rw [if_pos hx] at hD2
      clear hD
      subst hx
      subst hD2
      (try simp only [push_cast, seval, *])
      repeat' (first
    | refine AW_seq_kn fun K hK => ?_
    | refine AW_block ?_
    | ((first
      | refine AW_region_draw (id := 21) E0 (fun f => [].contains f) dLRH0 dARH0 mixed (by kernel_rfl) ?_
      | refine AW_region E0 ?_ | refine AW_ret ?_ | refine AW_exit ?_ | refine AW_skip ?_ | unfold retQ); try simp only [push_cast, seval, *])
    | (apply AW_cond; (case hc => (simp only [push_cast, seval]; rfl)); all_goals (intro hc; first | (exfalso; simp only [push_cast, seval, *] at hc; done) | (exact absurd hc (by decide)) | ((try first | rw [Bool.not_true] at hc | rw [Bool.not_false] at hc); first | (with_reducible replace hc := tTT hc); clear hc | (with_reducible replace hc := tFF hc); clear hc | (have hp := hc; try simp only [decide_eq_true_eq, decide_eq_false_iff_not, bA, bB, bC, bD, bE, bF, bG, bH] at hp))))
    | (refine Kn.go hK ?_; clear hK K)
    | refine Kn.go (by assumption) ?_
    | (intro n hn; (try simp only [upd_none2, join_none_iff, ite_none, ne_eq] at hn); (try simp only [push_cast, seval, *]))
    | (intro hc)
    | fail)
      obtain ⟨H3, h3, hown3⟩ := OwnL.cut (unhid hown2) (K := H) (Heap.le_new (Heap.le_new hle1 hm) hHq)
      exact ⟨_, H3, Weak.less h3, _, rfl, hown3⟩
    · have hD2 := unhid hD
      rw [if_neg hx] at hD2
      clear hD
      subst hD2
      (try simp only [push_cast, seval, *])
      repeat' (first
    | refine AW_seq_kn fun K hK => ?_
    | refine AW_block ?_
    | ((first
      | refine AW_region_draw (id := 21) E0 (fun f => [].contains f) dLRH0 dARH0 mixed (by kernel_rfl) ?_
      | refine AW_region E0 ?_ | refine AW_ret ?_ | refine AW_exit ?_ | refine AW_skip ?_ | unfold retQ); try simp only [push_cast, seval, *])
    | (apply AW_cond; (case hc => (simp only [push_cast, seval]; rfl)); all_goals (intro hc; first | (exfalso; simp only [push_cast, seval, *] at hc; done) | (exact absurd hc (by decide)) | ((try first | rw [Bool.not_true] at hc | rw [Bool.not_false] at hc); first | (with_reducible replace hc := tTT hc); clear hc | (with_reducible replace hc := tFF hc); clear hc | (have hp := hc; try simp only [decide_eq_true_eq, decide_eq_false_iff_not, bA, bB, bC, bD, bE, bF, bG, bH] at hp))))
    | (refine Kn.go hK ?_; clear hK K)
    | refine Kn.go (by assumption) ?_
    | (intro n hn; (try simp only [upd_none2, join_none_iff, ite_none, ne_eq] at hn); (try simp only [push_cast, seval, *]))
    | (intro hc)
    | fail)
      exact ⟨_, H, Weak.less (fun a b hab => (unhid hown2).le a b (Heap.le_new (Heap.le_new hle1 hm) hHq a b hab)), _, rfl, OwnL.nil _ _ _⟩
end Go.Proofs.Ytfdedgeljijfdaa
