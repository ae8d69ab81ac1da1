/- TxlogOrder. -/
import Derived.Test.YtdeckjoeggmagaaTO0
import Derived.Test.YtdeckjoeggmagaaWB
namespace Go.Proofs.Ytdeckjoeggmagaa
open Go.RowKit
open Nat renaming reduceEqDiff → nA, reduceLT → nB, reduceLeDiff → nC, reduceAdd → nD, reduceMul → nE, reduceSub → nF, reduceBEq → nG
open Int renaming reduceToNat → iA, reduceLT → iB, reduceLE → iC, reduceEq → iD
open Bool renaming and_eq_true → bA, or_eq_true → bB, or_eq_false_iff → bC, and_eq_false_iff → bD, not_eq_true' → bE, not_eq_false' → bF, not_true → bG, not_false → bH
set_option linter.all false
set_option maxHeartbeats 4000000
attribute [local irreducible] AW Does ACall tE tS tB tZ
def dLTO0 : List En := [(0, true, []), (1, false, []), (2, false, []), (3, false, [0, 9]), (4, false, []), (5, false, [9]), (6, false, []), (7, false, []), (8, false, []), (9, false, []), (10, false, []), (11, false, [])]
def dATO0 : List (List Nat) := [[], [], [], [1, 2], [1, 2, 3], [0, 1, 2, 3, 4], [0, 1, 2, 3, 4, 5], [0, 1, 2, 3, 4, 5, 6], [0, 1, 2, 3, 4, 5, 6], [], [0, 1, 2, 3, 4, 5, 6, 7, 9], [0, 1, 2, 3, 4, 5, 6, 7, 8, 9, 10]]
attribute [push_cast] dLTO0
set_option maxRecDepth 5000

set_option maxRecDepth 100000 in
theorem shp_ints {n : Nat} {row : List AV} (h : Shp Try.prog (n + 3) 65 row) : ∃ l : List Int, row = [.l 1 (l.map i1)] ∧ l.length ≤ maxLen := by
  obtain ⟨l, rfl, hl, _⟩ := shp_slice (P := Try.prog) (n := n + 2) (f := i1) (good := fun _ => True) (sz := 1) tU65 (by kernel_rfl) (fun r hr => by obtain ⟨x, e, _⟩ := shp_int tU3 hr; exact ⟨x, e, trivial⟩) h
  exact ⟨l, rfl, hl⟩
theorem name_a (s k : Int) (hk : IntKind.i64.wrap (k + 1) = k + 1) (G : Heap) (n2 : Nat) (h2 : G n2 = some (.r 3 1 1 [[.c (.int .i64 s)]])) :
    ACall Try.prog 34 [.c (.int .i64 k), .p n2 1 0 0] G fun r H' => r = .g [.c (.int .i64 s), .c (.int .i64 1), .c (.int .i64 (k + 1))] ∧ H' = G := by
  have o2 := ne_old h2
  refine ACall_of' Try.func34 rfl (Ent_of Try.func34 (by kernel_rfl) rfl) (by simp [Try.ntmps34]) ?_; simp only [Try.ntmps34, Try.results34]
  repeat' (first
    | refine AW_seq_kn fun K hK => ?_
    | refine AW_block ?_
    | ((first
      | refine AW_region E0 ?_ | refine AW_ret ?_ | refine AW_exit ?_ | refine AW_skip ?_ | unfold retQ); try simp only [push_cast, seval, *])
    | (apply AW_cond; (case hc => (simp only [push_cast, seval]; rfl)); all_goals (intro hc; first | (exfalso; simp only [push_cast, seval, *] at hc; done) | (exact absurd hc (by decide)) | ((try first | rw [Bool.not_true] at hc | rw [Bool.not_false] at hc); first | (with_reducible replace hc := tTT hc); clear hc | (with_reducible replace hc := tFF hc); clear hc | (have hp := hc; try simp only [decide_eq_true_eq, decide_eq_false_iff_not, bA, bB, bC, bD, bE, bF, bG, bH] at hp))))
    | (refine Kn.go hK ?_; clear hK K)
    | refine Kn.go (by assumption) ?_
    | (intro n hn; (try simp only [upd_none2, join_none_iff, ite_none, ne_eq] at hn); (try simp only [push_cast, seval, *]))
    | (intro hc)
    | fail)
  exact ⟨_, _, Weak.less (by (repeat' (first | exact Heap.le_refl _ | refine hle_upd2 ?_ _ _ | (refine Heap.le_new ?_ ?_; rotate_left 1; focus (first | assumption | (simp only [upd_none2, upd_get, ne_eq, push_cast, seval, *]; done) | (simp [upd_get, *]; done)))))), rfl, rfl⟩
theorem run_l (o : Op16) (ho : o.names.length ≤ maxLen ∧ o.recs.length ≤ maxLen) (c : Lg) (hf : c.fits) (x1 x2 : AV) (M : Heap) (h1 : Lent M x1 (.l 3 (o.names.map Nm.av))) (h2 : Lent M x2 (.l 3 (o.recs.map Rec.av))) :
    ACall Try.prog 26 [.g [.c (.int .i64 o.kind), .c (.int .i64 o.nm.s), .c (.int .i64 o.nm.a), .c (.int .i64 o.nm.n), x1, x2], .g (Lg.av c)] M fun r H' => r = .t [.g (runR c o).1.av, .c (.int .i64 (runR c o).2.1), .c (.int .i64 (runR c o).2.2)] ∧ H' = M :=
  opW (vs := [.int .i64 (runR c o).2.1, .int .i64 (runR c o).2.2]) (opL (args' := [.g (Op16.av o), .g (Lg.av c)]) (show Lent M _ _ ∧ Lent M _ _ ∧ True from
    ⟨Lent.g (xs := [.c (.int .i64 o.kind), .c (.int .i64 o.nm.s), .c (.int .i64 o.nm.a), .c (.int .i64 o.nm.n), x1, x2]) (ys := Op16.av o) ⟨Lent.refl _ _, Lent.refl _ _, Lent.refl _ _, Lent.refl _ _, h1, h2, trivial⟩ (by intro w hw; simp only [Op16.av, List.mem_cons, List.not_mem_nil, or_false] at hw; rcases hw with rfl | rfl | rfl | rfl | rfl | rfl <;> rfl), Lent.refl _ _, trivial⟩) (run_o o ho c hf emp))
theorem Pending_p (l : Lg) (hf : l.txs.length ≤ 1000000) (sink : Int) : Pure Try.prog 37 [.g (Lg.av l), .c (.int .i64 sink)] (.l 3 ((pendS l.txs sink).map Nm.av)) := fun H =>
  ACall.weak ((Pending_o l hf sink H).mono fun r H' h => ⟨_, _, h.weak (fun F F' hF hi _ => hi), rfl, rfl⟩)
theorem runR_open (l : Lg) (v : Nm) : runR l ⟨0, v, [], []⟩ = ((openR l v).1, 0, (openR l v).2) := by
  have h : kdS (⟨0, v, [], []⟩ : Op16) = 0 := by show (IntKind.u64.wrap 0).tmod 9 = 0; decide
  unfold runR; rw [h, if_pos (by decide)]
theorem runR_write (l : Lg) (v : Nm) (r : Rec) : runR l ⟨2, v, [], [r]⟩ = ((writeR l v [r]).1, 0, (writeR l v [r]).2) := by
  have h : kdS (⟨2, v, [], [r]⟩ : Op16) = 2 := by show (IntKind.u64.wrap 2).tmod 9 = 2; decide
  unfold runR; rw [h, if_neg (by decide), if_pos (by decide)]; rfl
theorem runR_ready (l : Lg) (v : Nm) : runR l ⟨4, v, [], []⟩ = ((readyR l v).1, 0, (readyR l v).2) := by
  have h : kdS (⟨4, v, [], []⟩ : Op16) = 4 := by show (IntKind.u64.wrap 4).tmod 9 = 4; decide
  unfold runR; rw [h, if_neg (by decide), if_neg (by decide), if_pos (by decide)]
theorem le_turn {G : Heap} {n m : Nat} {a b c : Blk} (hne : m ≠ n) (hm : G m = none) : Heap.le (upd G n c) (upd (upd (upd G n a) m b) n c) := fun p x hp => by
  by_cases e : p = n
  · subst e; rw [upd_same] at hp ⊢; exact hp
  · rw [upd_ne e] at hp ⊢
    have e2 : p ≠ m := fun h => by rw [h, hm] at hp; cases hp
    rw [upd_ne e2, upd_ne e]; exact hp
theorem txlogOrder_a (sink : Int) (ser : List Int) (hl : ser.length ≤ maxLen) (H : Heap) :
    ACall Try.prog 7 [.c (.int .i64 sink), .l 1 (ser.map i1)] H fun r _ => r = .c (.bool true) := by
  have hwk := wakes16_p
  unfold maxLen at hl
  obtain ⟨U, hU⟩ : ∃ U, IntKind.u64.wrap sink = U := ⟨_, rfl⟩
  obtain ⟨s, hs, hs16⟩ : ∃ s : Nat, U.tmod 16 = s ∧ s < 16 := by
    have h0 : 0 ≤ U := by
      rw [← hU]
      simp only [IntKind.wrap, IntKind.bits, IntKind.signed]
      first
        | exact Int.emod_nonneg _ (by decide)
        | (simp; exact Int.emod_nonneg _ (by decide))
    rw [Int.tmod_eq_emod_of_nonneg h0]
    have h1 := Int.emod_nonneg U (show (16 : Int) ≠ 0 by decide)
    have h2 := Int.emod_lt_of_pos U (show (0 : Int) < 16 by decide)
    exact ⟨(U % 16).toNat, by omega, by omega⟩
  have hsw : IntKind.i64.wrap (s : Int) = s := wrap_i64 (by omega) (by omega)
  refine ACall_of' Try.func7 rfl (Ent_of Try.func7 (by kernel_rfl) rfl) (by simp [Try.ntmps7]) ?_; simp only [Try.ntmps7, Try.results7]
  repeat' (first
    | (refine AW_atR (id := 4) ?_)
    | refine AW_seq_kn fun K hK => ?_
    | refine AW_block ?_
    | (refine does_call rfl rfl ?_; simp only [push_cast, seval, *]; refine ACall.monoP (hwk _) ?_; (try simp only [push_cast, seval, *]))
    | ((first
      | refine AW_region_draw (id := 25) E0 (fun f => [].contains f) dLTO0 dATO0 mixed (by kernel_rfl) ?_
      | refine AW_region E0 ?_ | refine AW_ret ?_ | refine AW_exit ?_ | refine AW_skip ?_ | unfold retQ); try simp only [push_cast, seval, *])
    | ((first | (apply AW_cond; (case hc => (simp only [push_cast, seval]; rfl))) | (apply ER_guard; (case hb => (simp only [push_cast, seval]; rfl)))); all_goals ((intro hc; first | (exfalso; simp only [push_cast, seval, *] at hc; done) | (exact absurd hc (by decide)) | ((try first | rw [Bool.not_true] at hc | rw [Bool.not_false] at hc); first | (with_reducible replace hc := tTT hc); clear hc | (with_reducible replace hc := tFF hc); clear hc | (have hp := hc; try simp only [decide_eq_true_eq, decide_eq_false_iff_not, bA, bB, bC, bD, bE, bF, bG, bH] at hp))) <;> try simp only [push_cast, seval, *]))
    | (refine Kn.go hK ?_; clear hK K)
    | refine Kn.go (by assumption) ?_
    | (intro n hn; (try simp only [upd_none2, join_none_iff, ite_none, ne_eq] at hn); (try simp only [push_cast, seval, *]))
    | (intro hc)
    | (apply ER_blk; (case hp => rfl); (case hb => (simp only [push_cast, seval]; rfl)); (case hd => (simp only [push_cast, seval]; done)); (case h => (intro hc; simp only [push_cast, seval, *]; rfl)); simp only [push_cast, seval, *])
    | fail)
  refine ⟨?_⟩
  rename_i n2 h2
  generalize n = n5 at *
  have n52 : ¬ n5 = n2 := hn.1.1
  have n25 : ¬ n2 = n5 := hn.1.2
  have g2n : H n2 = none := h2
  have g5n : H n5 = none := hn.2
  clear hwk hn h2
  refine AW_zero (upd_same _ _ _) ?_
  rw [upd_upd]
  have hz0 : comL s 0 0 = zeroL := rfl
  rw [← hz0]
  clear hz0
  obtain ⟨q, hq, hq1, hq7⟩ : ∃ q : Nat, (1 + if (6 : Int) < ser.length then 6 else (ser.length : Int)) = q ∧ 1 ≤ q ∧ q ≤ 7 := by
    by_cases c : (6 : Int) < ser.length
    · exact ⟨7, by rw [if_pos c]; rfl, by omega, by omega⟩
    · exact ⟨ser.length + 1, by rw [if_neg c]; omega, by omega, by omega⟩
  have hqw : IntKind.i64.wrap (q : Int) = q := wrap_i64 (by omega) (by omega)
  have hfits : ∀ d, d ≤ q → (comL s q d).fits := fun d hd => fits_of (fit0 ⟨s, hs16⟩ ⟨q, by omega⟩ ⟨d, by omega⟩ hd)
  have hrun : ∀ k, k < q → ∀ (M : Heap) (m : Nat), M m = some (.r 36 3 1 [Rec.av (rcK k)]) → True := fun _ _ _ _ _ => trivial
  clear hrun
  repeat' (first
    | (refine AW_atB (id := 7) ?_)
    | refine AW_seq_kn fun K hK => ?_
    | refine AW_block ?_
    | ((first
      | refine AW_region_draw (id := 25) E0 (fun f => [].contains f) dLTO0 dATO0 mixed (by kernel_rfl) ?_
      | refine AW_region E0 ?_ | refine AW_ret ?_ | refine AW_exit ?_ | refine AW_skip ?_ | unfold retQ); try simp only [push_cast, seval, *])
    | ((first | (apply AW_cond; (case hc => (simp only [push_cast, seval]; rfl))) | (apply ER_guard; (case hb => (simp only [push_cast, seval]; rfl)))); all_goals ((intro hc; first | (exfalso; simp only [push_cast, seval, *] at hc; done) | (exact absurd hc (by decide)) | ((try first | rw [Bool.not_true] at hc | rw [Bool.not_false] at hc); first | (with_reducible replace hc := tTT hc); clear hc | (with_reducible replace hc := tFF hc); clear hc | (have hp := hc; try simp only [decide_eq_true_eq, decide_eq_false_iff_not, bA, bB, bC, bD, bE, bF, bG, bH] at hp))) <;> try simp only [push_cast, seval, *]))
    | (refine Kn.go hK ?_; clear hK K)
    | refine Kn.go (by assumption) ?_
    | (intro n hn; (try simp only [upd_none2, join_none_iff, ite_none, ne_eq] at hn); (try simp only [push_cast, seval, *]))
    | (intro hc)
    | (apply ER_blk; (case hp => rfl); (case hb => (simp only [push_cast, seval]; rfl)); (case hd => (simp only [push_cast, seval]; done)); (case h => (intro hc; simp only [push_cast, seval, *]; rfl)); simp only [push_cast, seval, *])
    | fail)
  refine ⟨?_⟩
  rw [show ∀ (A B C : Blk), upd (upd (upd H n2 A) n5 B) n2 C = upd (upd H n2 C) n5 B from fun A B C => by rw [upd_comm n25, upd_upd, upd_comm n52]]
  repeat' (first
    | refine AW_seq_kn fun K hK => ?_
    | refine AW_block ?_
    | ((first
      | refine AW_region_draw (id := 25) E0 (fun f => [].contains f) dLTO0 dATO0 mixed (by kernel_rfl) ?_
      | refine AW_region E0 ?_ | refine AW_ret ?_ | refine AW_exit ?_ | refine AW_skip ?_ | unfold retQ); try simp only [push_cast, seval, *])
    | ((first | (apply AW_cond; (case hc => (simp only [push_cast, seval]; rfl))) | (apply ER_guard; (case hb => (simp only [push_cast, seval]; rfl)))); all_goals ((intro hc; first | (exfalso; simp only [push_cast, seval, *] at hc; done) | (exact absurd hc (by decide)) | ((try first | rw [Bool.not_true] at hc | rw [Bool.not_false] at hc); first | (with_reducible replace hc := tTT hc); clear hc | (with_reducible replace hc := tFF hc); clear hc | (have hp := hc; try simp only [decide_eq_true_eq, decide_eq_false_iff_not, bA, bB, bC, bD, bE, bF, bG, bH] at hp))) <;> try simp only [push_cast, seval, *]))
    | (refine Kn.go hK ?_; clear hK K)
    | refine Kn.go (by assumption) ?_
    | (intro n hn; (try simp only [upd_none2, join_none_iff, ite_none, ne_eq] at hn); (try simp only [push_cast, seval, *]))
    | (intro hc)
    | (apply ER_blk; (case hp => rfl); (case hb => (simp only [push_cast, seval]; rfl)); (case hd => (simp only [push_cast, seval]; done)); (case h => (intro hc; simp only [push_cast, seval, *]; rfl)); simp only [push_cast, seval, *])
    | fail)
  refine AW_loopN q (fun _ => True) (fun k => [(1, .l 1 (ser.map i1)), (2, .p n2 1 0 0), (5, .p n5 3 0 0), (6, ci q), (7, .f (.func 34) [] [.p n2 1 0 0]), (31, ci q), (32, ci k)]) (fun k => upd (upd H n2 (.r 3 1 1 [[.c (.int .i64 s)]])) n5 (.r 47 3 1 [Lg.av (comL s k 0)])) trivial ?_ ?_ ?_ ?_
  · (first | trivial | (simp only [push_cast, seval, *]; done))
  · exact Heap.le_refl _
  · intro k hk _
    have hkl : (k : Int) < q := (by omega); have hkw : IntKind.i64.wrap ((k : Int) + 1) = (k : Int) + 1 := wrap_i64 (by omega) (by omega)
    have hnm := fun G h => name_a (s : Int) (k : Int) hkw G n2 h
    have r0 := bld0 ⟨s, hs16⟩ ⟨k, by omega⟩
    have r1 := bld1 ⟨s, hs16⟩ ⟨k, by omega⟩
    have r2 := bld2 ⟨s, hs16⟩ ⟨k, by omega⟩
    have f0 := fits_of (fit0 ⟨s, hs16⟩ ⟨k, by omega⟩ ⟨0, by omega⟩ (Nat.zero_le _))
    obtain ⟨f1, f2⟩ := fit1 ⟨s, hs16⟩ ⟨k, by omega⟩
    have f1 := fits_of f1
    have f2 := fits_of f2
    simp only at r0 r1 r2 f0 f1 f2
    have w0 := fun M => run_l ⟨0, nmK s k, [], []⟩ ⟨by simp, by simp⟩ (comL s k 0) f0 (.c (.slice none 0 0)) (.c (.slice none 0 0)) M (OwnL.nil M 0 3).lent (OwnL.nil M 0 3).lent
    have w1 := fun M m (hm : M m = some (.r 36 3 1 [Rec.av (rcK k)])) => run_l ⟨2, nmK s k, [], [rcK k]⟩ ⟨by simp, by simp [maxLen]⟩ (midL s k []) f1 (.c (.slice none 0 0)) (.s m 3 0 1 1) M (OwnL.nil M 0 3).lent (Lent.s (rows := [Rec.av (rcK k)]) hm)
    have w2 := fun M => run_l ⟨4, nmK s k, [], []⟩ ⟨by simp, by simp⟩ (midL s k [rcK k]) f2 (.c (.slice none 0 0)) (.c (.slice none 0 0)) M (OwnL.nil M 0 3).lent (OwnL.nil M 0 3).lent
    simp only [runR_open, runR_write, runR_ready, r0, r1, r2] at w0 w1 w2
    clear r0 r1 r2 f0 f1 f2 hfits
    have hv0 : ∀ x : Nm, Nm.av x = [.c (.int .i64 x.s), .c (.int .i64 x.a), .c (.int .i64 x.n)] := fun _ => rfl
    generalize comL s k 0 = L0 at *
    generalize midL s k [] = L1 at *
    generalize midL s k [rcK k] = L2 at *
    generalize comL s (k + 1) 0 = L3 at *
    simp only [nmK, rcK, Rec.av] at w0 w1 w2
    obtain ⟨a0, b0, c0⟩ := L0
    obtain ⟨a1, b1, c1⟩ := L1
    obtain ⟨a2, b2, c2⟩ := L2
    obtain ⟨a3, b3, c3⟩ := L3
    simp only [Lg.av] at w0 w1 w2 ⊢
    replace w0 := Lib.hid w0
    replace w1 := Lib.hid w1
    replace w2 := Lib.hid w2
    repeat' (first
    | refine AW_seq_kn fun K hK => ?_
    | refine AW_block ?_
    | (refine does_call_f rfl (by simp only [push_cast, seval]; rfl) ?_; simp only [push_cast, seval, *]; refine ACall.monoP (hnm _ (by simp only [push_cast, seval, upd_get, *])) ?_; (try simp only [push_cast, seval, *]))
    | ((first
      | refine AW_region_draw (id := 25) E0 (fun f => [].contains f) dLTO0 dATO0 mixed (by kernel_rfl) ?_
      | refine AW_region E0 ?_ | refine AW_ret ?_ | refine AW_exit ?_ | refine AW_skip ?_ | unfold retQ); try simp only [push_cast, seval, *])
    | ((first | (apply AW_cond; (case hc => (simp only [push_cast, seval]; rfl))) | (apply ER_guard; (case hb => (simp only [push_cast, seval]; rfl)))); all_goals ((intro hc; first | (exfalso; simp only [push_cast, seval, *] at hc; done) | (exact absurd hc (by decide)) | ((try first | rw [Bool.not_true] at hc | rw [Bool.not_false] at hc); first | (with_reducible replace hc := tTT hc); clear hc | (with_reducible replace hc := tFF hc); clear hc | (have hp := hc; try simp only [decide_eq_true_eq, decide_eq_false_iff_not, bA, bB, bC, bD, bE, bF, bG, bH] at hp))) <;> try simp only [push_cast, seval, *]))
    | (refine Kn.go hK ?_; clear hK K)
    | refine Kn.go (by assumption) ?_
    | (intro n hn; (try simp only [upd_none2, join_none_iff, ite_none, ne_eq] at hn); (try simp only [push_cast, seval, *]))
    | (intro hc)
    | (apply ER_blk; (case hp => rfl); (case hb => (simp only [push_cast, seval]; rfl)); (case hd => (simp only [push_cast, seval]; done)); (case h => (intro hc; simp only [push_cast, seval, *]; rfl)); simp only [push_cast, seval, *])
    | fail)
    rename_i n44 h44
    generalize n = n50 at *
    obtain ⟨G0, hG0⟩ : ∃ G0 : Heap, G0 = upd (upd (upd (upd H n2 (.r 3 1 1 [[.c (.int .i64 s)]])) n5 (.r 47 3 1 [[.l 5 (a0.map Tx.av), .l 3 (b0.map Nm.av), .l 3 (c0.map Rec.av)]])) n44 (.r 36 3 1 [[.c (.int .i64 0), .c (.int .i64 1), .c (.int .i64 k)]])) n50 (.r 51 6 3 [[.c (.int .i64 0), .c (.int .i64 s), .c (.int .i64 1), .c (.int .i64 (k + 1)), .c (.slice none 0 0), .c (.slice none 0 0)], [.c (.int .i64 2), .c (.int .i64 s), .c (.int .i64 1), .c (.int .i64 (k + 1)), .c (.slice none 0 0), .s n44 3 0 1 1], [.c (.int .i64 4), .c (.int .i64 s), .c (.int .i64 1), .c (.int .i64 (k + 1)), .c (.slice none 0 0), .c (.slice none 0 0)]]) := ⟨_, rfl⟩
    have x44 : n44 ≠ n5 := h44.1.1
    have y44 : n44 ≠ n2 := h44.2.1.1
    have x50 : n50 ≠ n44 := hn.1.1
    have y50 : n50 ≠ n5 := hn.2.1.1
    have z50 : n50 ≠ n2 := hn.2.2.1.1
    have hH44 : H n44 = none := h44.2.2
    have hH50 : H n50 = none := hn.2.2.2
    have g2 : G0 n2 = some (.r 3 1 1 [[.c (.int .i64 s)]]) := by rw [hG0, upd_ne z50.symm, upd_ne y44.symm, upd_ne n25, upd_same]
    have g5 : G0 n5 = some (.r 47 3 1 [[.l 5 (a0.map Tx.av), .l 3 (b0.map Nm.av), .l 3 (c0.map Rec.av)]]) := by rw [hG0, upd_ne y50.symm, upd_ne x44.symm, upd_same]
    have g44 : G0 n44 = some (.r 36 3 1 [[.c (.int .i64 0), .c (.int .i64 1), .c (.int .i64 k)]]) := by rw [hG0, upd_ne x50.symm, upd_same]
    have g50 : G0 n50 = some (.r 51 6 3 [[.c (.int .i64 0), .c (.int .i64 s), .c (.int .i64 1), .c (.int .i64 (k + 1)), .c (.slice none 0 0), .c (.slice none 0 0)], [.c (.int .i64 2), .c (.int .i64 s), .c (.int .i64 1), .c (.int .i64 (k + 1)), .c (.slice none 0 0), .s n44 3 0 1 1], [.c (.int .i64 4), .c (.int .i64 s), .c (.int .i64 1), .c (.int .i64 (k + 1)), .c (.slice none 0 0), .c (.slice none 0 0)]]) := by rw [hG0, upd_same]
    have hle : ∀ b : Blk, Heap.le (upd (upd H n2 (.r 3 1 1 [[.c (.int .i64 s)]])) n5 b) (upd G0 n5 b) := fun b => by
      rw [hG0, upd_comm y50, upd_comm x44]
      rw [upd_upd]
      exact Heap.le_trans (le_upd_new (by rw [upd_ne x44, upd_ne y44]; exact hH44)) (le_upd_new (by rw [upd_ne x50, upd_ne y50, upd_ne z50]; exact hH50))
    have hle0 : Heap.le H G0 := by
      have h1 := hle (.r 47 3 1 [[.l 5 (a0.map Tx.av), .l 3 (b0.map Nm.av), .l 3 (c0.map Rec.av)]])
      rw [upd_self g5] at h1
      exact Heap.le_trans (Heap.le_trans (le_upd_new g2n) (le_upd_new (by rw [upd_ne n52]; exact g5n))) h1
    rw [← hG0]
    clear hG0 h44 hn hH44 hH50
    replace hle := Lib.hid hle
    have e5 : G0 = upd G0 n5 (.r 47 3 1 [[.l 5 (a0.map Tx.av), .l 3 (b0.map Nm.av), .l 3 (c0.map Rec.av)]]) := (upd_self g5).symm
    obtain ⟨Sj, hS0, hS1, hS2, hS3⟩ : ∃ Sj : Nat → List AV, Sj 0 = [.l 5 (a0.map Tx.av), .l 3 (b0.map Nm.av), .l 3 (c0.map Rec.av)] ∧ Sj 1 = [.l 5 (a1.map Tx.av), .l 3 (b1.map Nm.av), .l 3 (c1.map Rec.av)] ∧ Sj 2 = [.l 5 (a2.map Tx.av), .l 3 (b2.map Nm.av), .l 3 (c2.map Rec.av)] ∧ Sj 3 = [.l 5 (a3.map Tx.av), .l 3 (b3.map Nm.av), .l 3 (c3.map Rec.av)] :=
      ⟨fun j => if j = 0 then [.l 5 (a0.map Tx.av), .l 3 (b0.map Nm.av), .l 3 (c0.map Rec.av)] else if j = 1 then [.l 5 (a1.map Tx.av), .l 3 (b1.map Nm.av), .l 3 (c1.map Rec.av)] else if j = 2 then [.l 5 (a2.map Tx.av), .l 3 (b2.map Nm.av), .l 3 (c2.map Rec.av)] else [.l 5 (a3.map Tx.av), .l 3 (b3.map Nm.av), .l 3 (c3.map Rec.av)], rfl, rfl, rfl, rfl⟩
    refine AW_loopN 3 (fun _ => True) (fun j => [(1, .l 1 (ser.map i1)), (2, .p n2 1 0 0), (5, .p n5 3 0 0), (6, ci q), (7, .f (.func 34) [] [.p n2 1 0 0]), (31, ci q), (32, ci k), (50, .s n50 6 0 3 3), (51, ci 3), (52, ci j)]) (fun j => upd G0 n5 (.r 47 3 1 [Sj j])) trivial ?_ ?_ ?_ ?_
    · (first | trivial | (simp only [push_cast, seval, *]; done))
    · rw [hS0, ← e5]; exact Heap.le_refl _
    · intro j hj _
      clear e5 g5
      have o2 := ne_old g2
      have o44 := ne_old g44
      have o50 := ne_old g50
      have hw0 := unhid w0
      have hw1 := unhid w1
      have hw2 := unhid w2
      clear w0 w1 w2
      have wa1 : IntKind.i64.wrap 1 = 1 := by decide
      have wa2 : IntKind.i64.wrap 2 = 2 := by decide
      have wa3 : IntKind.i64.wrap 3 = 3 := by decide
      have x44' : ¬ n44 = n5 := x44
      have y44' : ¬ n5 = n44 := fun h => x44 h.symm
      have x50' : ¬ n50 = n5 := y50
      have y50' : ¬ n5 = n50 := fun h => y50 h.symm
      have hj3 : j = 0 ∨ j = 1 ∨ j = 2 := by omega
      rcases hj3 with rfl | rfl | rfl
      · clear hw1 hw2
        repeat' (first
    | refine AW_seq_kn fun K hK => ?_
    | refine AW_block ?_
    | (refine does_call rfl rfl ?_; simp only [push_cast, seval, *]; refine ACall.monoP (hw0 _) ?_; (try simp only [push_cast, seval, *]))
    | ((first
      | refine AW_region_draw (id := 25) E0 (fun f => [].contains f) dLTO0 dATO0 mixed (by kernel_rfl) ?_
      | refine AW_region E0 ?_ | refine AW_ret ?_ | refine AW_exit ?_ | refine AW_skip ?_ | unfold retQ); try simp only [push_cast, seval, *])
    | ((first | (apply AW_cond; (case hc => (simp only [push_cast, seval]; rfl))) | (apply ER_guard; (case hb => (simp only [push_cast, seval]; rfl)))); all_goals ((intro hc; first | (exfalso; simp only [push_cast, seval, *] at hc; done) | (exact absurd hc (by decide)) | ((try first | rw [Bool.not_true] at hc | rw [Bool.not_false] at hc); first | (with_reducible replace hc := tTT hc); clear hc | (with_reducible replace hc := tFF hc); clear hc | (have hp := hc; try simp only [decide_eq_true_eq, decide_eq_false_iff_not, bA, bB, bC, bD, bE, bF, bG, bH] at hp))) <;> try simp only [push_cast, seval, *]))
    | (refine Kn.go hK ?_; clear hK K)
    | refine Kn.go (by assumption) ?_
    | (intro n hn; (try simp only [upd_none2, join_none_iff, ite_none, ne_eq] at hn); (try simp only [push_cast, seval, *]))
    | (intro hc)
    | (apply ER_blk; (case hp => rfl); (case hb => (simp only [push_cast, seval]; rfl)); (case hd => (simp only [push_cast, seval]; done)); (case h => (intro hc; simp only [push_cast, seval, *]; rfl)); simp only [push_cast, seval, *])
    | fail)
        exact ⟨trivial, by (first | trivial | (simp only [push_cast, seval, *]; done)), le_turn hn.1.1 hn.2⟩
      · clear hw0 hw2
        repeat' (first
    | refine AW_seq_kn fun K hK => ?_
    | refine AW_block ?_
    | (refine does_call rfl rfl ?_; simp only [push_cast, seval, *]; refine ACall.monoP (hw1 _ n44 (by simp only [push_cast, seval, upd_get, *])) ?_; (try simp only [push_cast, seval, *]))
    | ((first
      | refine AW_region_draw (id := 25) E0 (fun f => [].contains f) dLTO0 dATO0 mixed (by kernel_rfl) ?_
      | refine AW_region E0 ?_ | refine AW_ret ?_ | refine AW_exit ?_ | refine AW_skip ?_ | unfold retQ); try simp only [push_cast, seval, *])
    | ((first | (apply AW_cond; (case hc => (simp only [push_cast, seval]; rfl))) | (apply ER_guard; (case hb => (simp only [push_cast, seval]; rfl)))); all_goals ((intro hc; first | (exfalso; simp only [push_cast, seval, *] at hc; done) | (exact absurd hc (by decide)) | ((try first | rw [Bool.not_true] at hc | rw [Bool.not_false] at hc); first | (with_reducible replace hc := tTT hc); clear hc | (with_reducible replace hc := tFF hc); clear hc | (have hp := hc; try simp only [decide_eq_true_eq, decide_eq_false_iff_not, bA, bB, bC, bD, bE, bF, bG, bH] at hp))) <;> try simp only [push_cast, seval, *]))
    | (refine Kn.go hK ?_; clear hK K)
    | refine Kn.go (by assumption) ?_
    | (intro n hn; (try simp only [upd_none2, join_none_iff, ite_none, ne_eq] at hn); (try simp only [push_cast, seval, *]))
    | (intro hc)
    | (apply ER_blk; (case hp => rfl); (case hb => (simp only [push_cast, seval]; rfl)); (case hd => (simp only [push_cast, seval]; done)); (case h => (intro hc; simp only [push_cast, seval, *]; rfl)); simp only [push_cast, seval, *])
    | fail)
        exact ⟨trivial, by (first | trivial | (simp only [push_cast, seval, *]; done)), le_turn hn.1.1 hn.2⟩
      · clear hw0 hw1
        repeat' (first
    | refine AW_seq_kn fun K hK => ?_
    | refine AW_block ?_
    | (refine does_call rfl rfl ?_; simp only [push_cast, seval, *]; refine ACall.monoP (hw2 _) ?_; (try simp only [push_cast, seval, *]))
    | ((first
      | refine AW_region_draw (id := 25) E0 (fun f => [].contains f) dLTO0 dATO0 mixed (by kernel_rfl) ?_
      | refine AW_region E0 ?_ | refine AW_ret ?_ | refine AW_exit ?_ | refine AW_skip ?_ | unfold retQ); try simp only [push_cast, seval, *])
    | ((first | (apply AW_cond; (case hc => (simp only [push_cast, seval]; rfl))) | (apply ER_guard; (case hb => (simp only [push_cast, seval]; rfl)))); all_goals ((intro hc; first | (exfalso; simp only [push_cast, seval, *] at hc; done) | (exact absurd hc (by decide)) | ((try first | rw [Bool.not_true] at hc | rw [Bool.not_false] at hc); first | (with_reducible replace hc := tTT hc); clear hc | (with_reducible replace hc := tFF hc); clear hc | (have hp := hc; try simp only [decide_eq_true_eq, decide_eq_false_iff_not, bA, bB, bC, bD, bE, bF, bG, bH] at hp))) <;> try simp only [push_cast, seval, *]))
    | (refine Kn.go hK ?_; clear hK K)
    | refine Kn.go (by assumption) ?_
    | (intro n hn; (try simp only [upd_none2, join_none_iff, ite_none, ne_eq] at hn); (try simp only [push_cast, seval, *]))
    | (intro hc)
    | (apply ER_blk; (case hp => rfl); (case hb => (simp only [push_cast, seval]; rfl)); (case hd => (simp only [push_cast, seval]; done)); (case h => (intro hc; simp only [push_cast, seval, *]; rfl)); simp only [push_cast, seval, *])
    | fail)
        exact ⟨trivial, by (first | trivial | (simp only [push_cast, seval, *]; done)), le_turn hn.1.1 hn.2⟩
    · intro _
      clear w0 w1 w2 e5
      repeat' (first
    | refine AW_seq_kn fun K hK => ?_
    | refine AW_block ?_
    | ((first
      | refine AW_region_draw (id := 25) E0 (fun f => [].contains f) dLTO0 dATO0 mixed (by kernel_rfl) ?_
      | refine AW_region E0 ?_ | refine AW_ret ?_ | refine AW_exit ?_ | refine AW_skip ?_ | unfold retQ); try simp only [push_cast, seval, *])
    | ((first | (apply AW_cond; (case hc => (simp only [push_cast, seval]; rfl))) | (apply ER_guard; (case hb => (simp only [push_cast, seval]; rfl)))); all_goals ((intro hc; first | (exfalso; simp only [push_cast, seval, *] at hc; done) | (exact absurd hc (by decide)) | ((try first | rw [Bool.not_true] at hc | rw [Bool.not_false] at hc); first | (with_reducible replace hc := tTT hc); clear hc | (with_reducible replace hc := tFF hc); clear hc | (have hp := hc; try simp only [decide_eq_true_eq, decide_eq_false_iff_not, bA, bB, bC, bD, bE, bF, bG, bH] at hp))) <;> try simp only [push_cast, seval, *]))
    | (refine Kn.go hK ?_; clear hK K)
    | refine Kn.go (by assumption) ?_
    | (intro n hn; (try simp only [upd_none2, join_none_iff, ite_none, ne_eq] at hn); (try simp only [push_cast, seval, *]))
    | (intro hc)
    | (apply ER_blk; (case hp => rfl); (case hb => (simp only [push_cast, seval]; rfl)); (case hd => (simp only [push_cast, seval]; done)); (case h => (intro hc; simp only [push_cast, seval, *]; rfl)); simp only [push_cast, seval, *])
    | fail)
      exact ⟨trivial, by (first | trivial | (simp only [push_cast, seval, *]; done)), by first | trivial | exact unhid hle _ | exact hle0⟩
  · intro _
    have hq0 : ¬ (q : Int) = 0 := by omega
    have hqu : IntKind.u64.wrap (q : Int) = q := by
      have h7 : ∀ m : _root_.Fin 8, IntKind.u64.wrap (m.val : Int) = m.val := by decide
      exact h7 ⟨q, by omega⟩
    repeat' (first
    | (refine AW_atB (id := 20) ?_)
    | refine AW_seq_kn fun K hK => ?_
    | refine AW_block ?_
    | ((first
      | refine AW_region_draw (id := 25) E0 (fun f => [].contains f) dLTO0 dATO0 mixed (by kernel_rfl) ?_
      | refine AW_region E0 ?_ | refine AW_ret ?_ | refine AW_exit ?_ | refine AW_skip ?_ | unfold retQ); try simp only [push_cast, seval, *])
    | ((first | (apply AW_cond; (case hc => (simp only [push_cast, seval]; rfl))) | (apply ER_guard; (case hb => (simp only [push_cast, seval]; rfl)))); all_goals ((intro hc; first | (exfalso; simp only [push_cast, seval, *] at hc; done) | (exact absurd hc (by decide)) | ((try first | rw [Bool.not_true] at hc | rw [Bool.not_false] at hc); first | (with_reducible replace hc := tTT hc); clear hc | (with_reducible replace hc := tFF hc); clear hc | (have hp := hc; try simp only [decide_eq_true_eq, decide_eq_false_iff_not, bA, bB, bC, bD, bE, bF, bG, bH] at hp))) <;> try simp only [push_cast, seval, *]))
    | (refine Kn.go hK ?_; clear hK K)
    | refine Kn.go (by assumption) ?_
    | (intro n hn; (try simp only [upd_none2, join_none_iff, ite_none, ne_eq] at hn); (try simp only [push_cast, seval, *]))
    | (intro hc)
    | (apply ER_blk; (case hp => rfl); (case hb => (simp only [push_cast, seval]; rfl)); (case hd => (simp only [push_cast, seval]; done)); (case h => (intro hc; simp only [push_cast, seval, *]; rfl)); simp only [push_cast, seval, *])
    | fail)
    refine ⟨?_⟩
    refine AW_seqX (σ := Nat) (fun d => d ≤ q) (fun d => [(2, .p n2 1 0 0), (5, .p n5 3 0 0), (6, ci q), (12, ci d)]) (fun d => upd (upd H n2 (.r 3 1 1 [[.c (.int .i64 s)]])) n5 (.r 47 3 1 [Lg.av (comL s q d)])) ?_ ?_
    · repeat' (first
    | refine AW_seq_kn fun K hK => ?_
    | refine AW_block ?_
    | ((first
      | refine AW_region_draw (id := 25) E0 (fun f => [].contains f) dLTO0 dATO0 mixed (by kernel_rfl) ?_
      | refine AW_region E0 ?_ | refine AW_ret ?_ | refine AW_exit ?_ | refine AW_skip ?_ | unfold retQ); try simp only [push_cast, seval, *])
    | ((first | (apply AW_cond; (case hc => (simp only [push_cast, seval]; rfl))) | (apply ER_guard; (case hb => (simp only [push_cast, seval]; rfl)))); all_goals ((intro hc; first | (exfalso; simp only [push_cast, seval, *] at hc; done) | (exact absurd hc (by decide)) | ((try first | rw [Bool.not_true] at hc | rw [Bool.not_false] at hc); first | (with_reducible replace hc := tTT hc); clear hc | (with_reducible replace hc := tFF hc); clear hc | (have hp := hc; try simp only [decide_eq_true_eq, decide_eq_false_iff_not, bA, bB, bC, bD, bE, bF, bG, bH] at hp))) <;> try simp only [push_cast, seval, *]))
    | (refine Kn.go hK ?_; clear hK K)
    | refine Kn.go (by assumption) ?_
    | (intro n hn; (try simp only [upd_none2, join_none_iff, ite_none, ne_eq] at hn); (try simp only [push_cast, seval, *]))
    | (intro hc)
    | (apply ER_blk; (case hp => rfl); (case hb => (simp only [push_cast, seval]; rfl)); (case hd => (simp only [push_cast, seval]; done)); (case h => (intro hc; simp only [push_cast, seval, *]; rfl)); simp only [push_cast, seval, *])
    | fail)
      refine AW_loopX (σ := Nat) ser.length (fun _ d => d ≤ q) (fun i d => [(2, .p n2 1 0 0), (5, .p n5 3 0 0), (6, ci q), (7, .f (.func 34) [] [.p n2 1 0 0]), (12, ci d), (67, .l 1 (ser.map i1)), (68, ci ser.length), (69, ci i)]) (fun _ d => upd (upd H n2 (.r 3 1 1 [[.c (.int .i64 s)]])) n5 (.r 47 3 1 [Lg.av (comL s q d)])) 0 (Nat.zero_le _) ?_ ?_ ?_ ?_
      · (first | trivial | (simp only [push_cast, seval, *]; done))
      · exact Heap.le_refl _
      · rintro i d hi hd
        have hx := List.getElem?_eq_getElem (l := ser) hi; generalize ser[i] = x at hx; have hxm := List.mem_of_getElem? hx; have hil : (i : Int) < ser.length := (by omega); have hiw : IntKind.i64.wrap ((i : Int) + 1) = (i : Int) + 1 := wrap_i64 (by omega) (by omega)
        clear hq hqw hs hU hsw hxm
        have hxv : i1 x = [.c (.int .i64 x)] := rfl
        by_cases h6 : (i : Int) = 6
        · have e6 : i = 6 := by omega
          have hx6 := hx
          rw [e6] at hx6
          clear e6
          have hl6 : (6 : Int) < ser.length := by omega
          replace hd := Lib.hid hd
          repeat' (first
    | refine AW_seq_kn fun K hK => ?_
    | refine AW_block ?_
    | ((first
      | refine AW_region_draw (id := 25) E0 (fun f => [].contains f) dLTO0 dATO0 mixed (by kernel_rfl) ?_
      | refine AW_region E0 ?_ | refine AW_ret ?_ | refine AW_exit ?_ | refine AW_skip ?_ | unfold retQ); try simp only [push_cast, seval, *])
    | ((first | (apply AW_cond; (case hc => (simp only [push_cast, seval]; rfl))) | (apply ER_guard; (case hb => (simp only [push_cast, seval]; rfl)))); all_goals ((intro hc; first | (exfalso; simp only [push_cast, seval, *] at hc; done) | (exact absurd hc (by decide)) | ((try first | rw [Bool.not_true] at hc | rw [Bool.not_false] at hc); first | (with_reducible replace hc := tTT hc); clear hc | (with_reducible replace hc := tFF hc); clear hc | (have hp := hc; try simp only [decide_eq_true_eq, decide_eq_false_iff_not, bA, bB, bC, bD, bE, bF, bG, bH] at hp))) <;> try simp only [push_cast, seval, *]))
    | (refine Kn.go hK ?_; clear hK K)
    | refine Kn.go (by assumption) ?_
    | (intro n hn; (try simp only [upd_none2, join_none_iff, ite_none, ne_eq] at hn); (try simp only [push_cast, seval, *]))
    | (intro hc)
    | (apply ER_blk; (case hp => rfl); (case hb => (simp only [push_cast, seval]; rfl)); (case hd => (simp only [push_cast, seval]; done)); (case h => (intro hc; simp only [push_cast, seval, *]; rfl)); simp only [push_cast, seval, *])
    | fail)
          exact ⟨d, unhid hd, by (first | trivial | (simp only [push_cast, seval, *]; done)), by first | exact Heap.le_refl _ | ((repeat' (first | exact Heap.le_refl _ | refine hle_upd2 ?_ _ _ | (refine Heap.le_new ?_ ?_; rotate_left 1; focus (first | assumption | (simp only [upd_none2, upd_get, ne_eq, push_cast, seval, *]; done) | (simp [upd_get, *]; done))))); all_goals rfl)⟩
        obtain ⟨U2, hU2⟩ : ∃ U2, IntKind.u64.wrap x = U2 := ⟨_, rfl⟩
        obtain ⟨k, hk, hkq⟩ : ∃ k : Nat, U2.tmod q = k ∧ k < q := by
          have h0 : 0 ≤ U2 := by
            rw [← hU2]
            simp only [IntKind.wrap, IntKind.bits, IntKind.signed]
            first
              | exact Int.emod_nonneg _ (by decide)
              | (simp; exact Int.emod_nonneg _ (by decide))
          rw [Int.tmod_eq_emod_of_nonneg h0]
          have h1 := Int.emod_nonneg U2 hq0
          have h2 := Int.emod_lt_of_pos U2 (show (0 : Int) < q by omega)
          exact ⟨(U2 % q).toNat, by omega, by omega⟩
        have hkw2 : IntKind.i64.wrap (k : Int) = k := wrap_i64 (by omega) (by omega)
        have hkw3 : IntKind.i64.wrap ((k : Int) + 1) = (k : Int) + 1 := wrap_i64 (by omega) (by omega)
        have hnm := fun G h => name_a (s : Int) (k : Int) hkw3 G n2 h
        have hco := fun M m h => Commit_l1 (comL s q d) (hfits d hd) (nmK s k) (M := M) (m := m) h
        rw [com0 ⟨s, hs16⟩ ⟨q, by omega⟩ ⟨d, by omega⟩ ⟨k, by omega⟩ hd hkq] at hco
        simp only at hco
        have hnv : Nm.av (nmK s k) = [.c (.int .i64 s), .c (.int .i64 1), .c (.int .i64 (k + 1))] := rfl
        rw [hnv] at hco
        have hmd : max d (k + 1) ≤ q := by omega
        clear hfits hnv
        by_cases hdk : d < k
        · rw [if_pos hdk] at hco
          have hdi : (d : Int) < k := by omega
          have hz : Lg.av zeroL = [.l 5 [], .l 3 [], .l 3 []] := rfl
          simp only [hz] at hco
          obtain ⟨L, hL⟩ : ∃ L, comL s q d = L := ⟨_, rfl⟩
          rw [hL] at hco ⊢
          obtain ⟨a, b, c⟩ := L
          simp only [Lg.av] at hco ⊢
          clear hmd hdk hz
          replace hd := Lib.hid hd
          replace hL := Lib.hid hL
          repeat' (first
    | refine AW_seq_kn fun K hK => ?_
    | refine AW_block ?_
    | (refine does_call_f rfl (by simp only [push_cast, seval]; rfl) ?_; simp only [push_cast, seval, *]; refine ACall.monoP (hnm _ (by simp only [push_cast, seval, upd_get, *])) ?_; (try simp only [push_cast, seval, *]))
    | (refine does_call rfl rfl ?_; simp only [push_cast, seval, *]; refine ACall.monoP (hco _ _ (by simp only [push_cast, seval, upd_get, *])) ?_; (try simp only [push_cast, seval, *]))
    | ((first
      | refine AW_region_draw (id := 25) E0 (fun f => [].contains f) dLTO0 dATO0 mixed (by kernel_rfl) ?_
      | refine AW_region E0 ?_ | refine AW_ret ?_ | refine AW_exit ?_ | refine AW_skip ?_ | unfold retQ); try simp only [push_cast, seval, *])
    | ((first | (apply AW_cond; (case hc => (simp only [push_cast, seval]; rfl))) | (apply ER_guard; (case hb => (simp only [push_cast, seval]; rfl)))); all_goals ((intro hc; first | (exfalso; simp only [push_cast, seval, *] at hc; done) | (exact absurd hc (by decide)) | ((try first | rw [Bool.not_true] at hc | rw [Bool.not_false] at hc); first | (with_reducible replace hc := tTT hc); clear hc | (with_reducible replace hc := tFF hc); clear hc | (have hp := hc; try simp only [decide_eq_true_eq, decide_eq_false_iff_not, bA, bB, bC, bD, bE, bF, bG, bH] at hp))) <;> try simp only [push_cast, seval, *]))
    | (refine Kn.go hK ?_; clear hK K)
    | refine Kn.go (by assumption) ?_
    | (intro n hn; (try simp only [upd_none2, join_none_iff, ite_none, ne_eq] at hn); (try simp only [push_cast, seval, *]))
    | (intro hc)
    | (apply ER_blk; (case hp => rfl); (case hb => (simp only [push_cast, seval]; rfl)); (case hd => (simp only [push_cast, seval]; done)); (case h => (intro hc; simp only [push_cast, seval, *]; rfl)); simp only [push_cast, seval, *])
    | fail)
          exact ⟨d, unhid hd, by (first | trivial | (simp only [push_cast, seval, *]; done)), by rw [unhid hL]⟩
        · rw [if_neg hdk] at hco
          have hdi : ¬ (d : Int) < k := by omega
          have hkm : max d (k + 1) = k + 1 ∨ max d (k + 1) = d := by omega
          have hmi : ((max d (k + 1) : Nat) : Int) = if (d : Int) < k + 1 then (k : Int) + 1 else d := by split <;> omega
          obtain ⟨L, hL⟩ : ∃ L, comL s q d = L := ⟨_, rfl⟩
          obtain ⟨m, hm⟩ : ∃ m, max d (k + 1) = m := ⟨_, rfl⟩
          rw [hm] at hco hmi hmd
          obtain ⟨L2, hL2⟩ : ∃ L2, comL s q m = L2 := ⟨_, rfl⟩
          rw [hL, hL2] at hco
          rw [hL]
          obtain ⟨a, b, c⟩ := L
          obtain ⟨a2, b2, c2⟩ := L2
          simp only [Lg.av] at hco ⊢
          clear hdk hkm hm
          replace hmd := Lib.hid hmd
          replace hL2 := Lib.hid hL2
          replace hL := Lib.hid hL
          have hmi2 := hmi.symm
          clear hmi
          repeat' (first
    | refine AW_seq_kn fun K hK => ?_
    | refine AW_block ?_
    | (refine does_call_f rfl (by simp only [push_cast, seval]; rfl) ?_; simp only [push_cast, seval, *]; refine ACall.monoP (hnm _ (by simp only [push_cast, seval, upd_get, *])) ?_; (try simp only [push_cast, seval, *]))
    | (refine does_call rfl rfl ?_; simp only [push_cast, seval, *]; refine ACall.monoP (hco _ _ (by simp only [push_cast, seval, upd_get, *])) ?_; (try simp only [push_cast, seval, *]))
    | ((first
      | refine AW_region_draw (id := 25) E0 (fun f => [].contains f) dLTO0 dATO0 mixed (by kernel_rfl) ?_
      | refine AW_region E0 ?_ | refine AW_ret ?_ | refine AW_exit ?_ | refine AW_skip ?_ | unfold retQ); try simp only [push_cast, seval, *])
    | ((first | (apply AW_cond; (case hc => (simp only [push_cast, seval]; rfl))) | (apply ER_guard; (case hb => (simp only [push_cast, seval]; rfl)))); all_goals ((intro hc; first | (exfalso; simp only [push_cast, seval, *] at hc; done) | (exact absurd hc (by decide)) | ((try first | rw [Bool.not_true] at hc | rw [Bool.not_false] at hc); first | (with_reducible replace hc := tTT hc); clear hc | (with_reducible replace hc := tFF hc); clear hc | (have hp := hc; try simp only [decide_eq_true_eq, decide_eq_false_iff_not, bA, bB, bC, bD, bE, bF, bG, bH] at hp))) <;> try simp only [push_cast, seval, *]))
    | (refine Kn.go hK ?_; clear hK K)
    | refine Kn.go (by assumption) ?_
    | (intro n hn; (try simp only [upd_none2, join_none_iff, ite_none, ne_eq] at hn); (try simp only [push_cast, seval, *]))
    | (intro hc)
    | (apply ER_blk; (case hp => rfl); (case hb => (simp only [push_cast, seval]; rfl)); (case hd => (simp only [push_cast, seval]; done)); (case h => (intro hc; simp only [push_cast, seval, *]; rfl)); simp only [push_cast, seval, *])
    | fail)
          exact ⟨m, unhid hmd, by (first | trivial | (simp only [push_cast, seval, *]; done)), by rw [unhid hL2]⟩
      · rintro d hd
        replace hd := Lib.hid hd
        repeat' (first
    | refine AW_seq_kn fun K hK => ?_
    | refine AW_block ?_
    | ((first
      | refine AW_region_draw (id := 25) E0 (fun f => [].contains f) dLTO0 dATO0 mixed (by kernel_rfl) ?_
      | refine AW_region E0 ?_ | refine AW_ret ?_ | refine AW_exit ?_ | refine AW_skip ?_ | unfold retQ); try simp only [push_cast, seval, *])
    | ((first | (apply AW_cond; (case hc => (simp only [push_cast, seval]; rfl))) | (apply ER_guard; (case hb => (simp only [push_cast, seval]; rfl)))); all_goals ((intro hc; first | (exfalso; simp only [push_cast, seval, *] at hc; done) | (exact absurd hc (by decide)) | ((try first | rw [Bool.not_true] at hc | rw [Bool.not_false] at hc); first | (with_reducible replace hc := tTT hc); clear hc | (with_reducible replace hc := tFF hc); clear hc | (have hp := hc; try simp only [decide_eq_true_eq, decide_eq_false_iff_not, bA, bB, bC, bD, bE, bF, bG, bH] at hp))) <;> try simp only [push_cast, seval, *]))
    | (refine Kn.go hK ?_; clear hK K)
    | refine Kn.go (by assumption) ?_
    | (intro n hn; (try simp only [upd_none2, join_none_iff, ite_none, ne_eq] at hn); (try simp only [push_cast, seval, *]))
    | (intro hc)
    | (apply ER_blk; (case hp => rfl); (case hb => (simp only [push_cast, seval]; rfl)); (case hd => (simp only [push_cast, seval]; done)); (case h => (intro hc; simp only [push_cast, seval, *]; rfl)); simp only [push_cast, seval, *])
    | fail)
        exact ⟨d, unhid hd, by (first | trivial | (simp only [push_cast, seval, *]; done)), by first | exact Heap.le_refl _ | ((repeat' (first | exact Heap.le_refl _ | refine hle_upd2 ?_ _ _ | (refine Heap.le_new ?_ ?_; rotate_left 1; focus (first | assumption | (simp only [upd_none2, upd_get, ne_eq, push_cast, seval, *]; done) | (simp [upd_get, *]; done))))); all_goals rfl)⟩
    · rintro d hd
      have hv := Values_p (comL s q d) (hfits d hd) ⟨0, 1, 0⟩
      have hp := Pending_p (comL s q d) (by have := (hfits d hd).1.1; omega) s
      have e1 : valsS (comL s q d).log ⟨0, 1, 0⟩ = (List.range d).map (fun i : Nat => (i : Int)) := vals0 ⟨d, by omega⟩
      have e2 : (pendS (comL s q d).txs s).length = q - d := pend0 ⟨s, hs16⟩ ⟨q, by omega⟩ ⟨d, by omega⟩
      rw [e1] at hv
      obtain ⟨vl, hvl⟩ : ∃ vl, (List.range d).map (fun i : Nat => (i : Int)) = vl := ⟨_, rfl⟩
      have v1 : vl.length = d := by rw [← hvl]; simp
      have v2 : ∀ (j : Nat) (x : Int), vl[j]? = some x → x = (j : Int) := fun j x hx => by
        rw [← hvl, List.getElem?_map] at hx
        obtain ⟨y, hy, rfl⟩ := Option.map_eq_some_iff.1 hx
        rw [List.getElem?_range (by have := (List.getElem?_eq_some_iff.1 hy).1; simpa using this)] at hy
        cases hy; rfl
      rw [hvl] at hv
      generalize pendS (comL s q d).txs s = pl at *
      generalize comL s q d = L at *
      obtain ⟨a, b, c⟩ := L
      have hrv : Rec.av ⟨0, 1, 0⟩ = [.c (.int .i64 0), .c (.int .i64 1), .c (.int .i64 0)] := rfl
      simp only [Lg.av, hrv] at hv hp ⊢
      have e3 : (pl.length : Int) = (q : Int) - d := by omega
      have e4 : IntKind.i64.wrap ((q : Int) - d) = (q : Int) - d := wrap_i64 (by omega) (by omega)
      have hd7 : d ≤ 7 := by omega
      clear e1 e2 hvl hfits hq hs hU hsw
      replace v2 := Lib.hid v2
      replace hp := Lib.hid hp
      repeat' (first
    | refine AW_seq_kn fun K hK => ?_
    | refine AW_block ?_
    | (refine does_call rfl rfl ?_; simp only [push_cast, seval, *]; refine ACall.monoP (hv _) ?_; (try simp only [push_cast, seval, *]))
    | ((first
      | refine AW_region_draw (id := 25) E0 (fun f => [].contains f) dLTO0 dATO0 mixed (by kernel_rfl) ?_
      | refine AW_region E0 ?_ | refine AW_ret ?_ | refine AW_exit ?_ | refine AW_skip ?_ | unfold retQ); try simp only [push_cast, seval, *])
    | ((first | (apply AW_cond; (case hc => (simp only [push_cast, seval]; rfl))) | (apply ER_guard; (case hb => (simp only [push_cast, seval]; rfl)))); all_goals ((intro hc; first | (exfalso; simp only [push_cast, seval, *] at hc; done) | (exact absurd hc (by decide)) | ((try first | rw [Bool.not_true] at hc | rw [Bool.not_false] at hc); first | (with_reducible replace hc := tTT hc); clear hc | (with_reducible replace hc := tFF hc); clear hc | (have hp := hc; try simp only [decide_eq_true_eq, decide_eq_false_iff_not, bA, bB, bC, bD, bE, bF, bG, bH] at hp))) <;> try simp only [push_cast, seval, *]))
    | (refine Kn.go hK ?_; clear hK K)
    | refine Kn.go (by assumption) ?_
    | (intro n hn; (try simp only [upd_none2, join_none_iff, ite_none, ne_eq] at hn); (try simp only [push_cast, seval, *]))
    | (intro hc)
    | (apply ER_blk; (case hp => rfl); (case hb => (simp only [push_cast, seval]; rfl)); (case hd => (simp only [push_cast, seval]; done)); (case h => (intro hc; simp only [push_cast, seval, *]; rfl)); simp only [push_cast, seval, *])
    | fail)
      refine AW_loopN vl.length (fun _ => True) (fun j => [(2, .p n2 1 0 0), (5, .p n5 3 0 0), (6, ci q), (12, ci d), (18, .l 1 (vl.map i1)), (110, ci d), (111, ci j)]) (fun _ => upd (upd H n2 (.r 3 1 1 [[.c (.int .i64 s)]])) n5 (.r 47 3 1 [[.l 5 (a.map Tx.av), .l 3 (b.map Nm.av), .l 3 (c.map Rec.av)]])) trivial ?_ ?_ ?_ ?_
      · (first | trivial | (simp only [push_cast, seval, *]; done))
      · exact Heap.le_refl _
      · intro j hj _
        have hjd : (j : Int) < d := by omega
        have hx := List.getElem?_eq_getElem (l := vl) hj; generalize vl[j] = x at hx; have hxm := List.mem_of_getElem? hx; have hjl : (j : Int) < vl.length := (by omega); have hjw : IntKind.i64.wrap ((j : Int) + 1) = (j : Int) + 1 := wrap_i64 (by omega) (by omega)
        have hxj := unhid v2 j x hx
        subst hxj
        have hiv : i1 (j : Int) = [.c (.int .i64 (j : Int))] := rfl
        clear hxm
        repeat' (first
    | refine AW_seq_kn fun K hK => ?_
    | refine AW_block ?_
    | ((first
      | refine AW_region_draw (id := 25) E0 (fun f => [].contains f) dLTO0 dATO0 mixed (by kernel_rfl) ?_
      | refine AW_region E0 ?_ | refine AW_ret ?_ | refine AW_exit ?_ | refine AW_skip ?_ | unfold retQ); try simp only [push_cast, seval, *])
    | ((first | (apply AW_cond; (case hc => (simp only [push_cast, seval]; rfl))) | (apply ER_guard; (case hb => (simp only [push_cast, seval]; rfl)))); all_goals ((intro hc; first | (exfalso; simp only [push_cast, seval, *] at hc; done) | (exact absurd hc (by decide)) | ((try first | rw [Bool.not_true] at hc | rw [Bool.not_false] at hc); first | (with_reducible replace hc := tTT hc); clear hc | (with_reducible replace hc := tFF hc); clear hc | (have hp := hc; try simp only [decide_eq_true_eq, decide_eq_false_iff_not, bA, bB, bC, bD, bE, bF, bG, bH] at hp))) <;> try simp only [push_cast, seval, *]))
    | (refine Kn.go hK ?_; clear hK K)
    | refine Kn.go (by assumption) ?_
    | (intro n hn; (try simp only [upd_none2, join_none_iff, ite_none, ne_eq] at hn); (try simp only [push_cast, seval, *]))
    | (intro hc)
    | (apply ER_blk; (case hp => rfl); (case hb => (simp only [push_cast, seval]; rfl)); (case hd => (simp only [push_cast, seval]; done)); (case h => (intro hc; simp only [push_cast, seval, *]; rfl)); simp only [push_cast, seval, *])
    | fail)
        exact ⟨trivial, by (first | trivial | (simp only [push_cast, seval, *]; done)), by first | trivial | (repeat' (first | exact Heap.le_refl _ | refine hle_upd2 ?_ _ _ | (refine Heap.le_new ?_ ?_; rotate_left 1; focus (first | assumption | (simp only [upd_none2, upd_get, ne_eq, push_cast, seval, *]; done) | (simp [upd_get, *]; done)))))⟩
      · intro _
        have hp2 := unhid hp
        clear hp
        repeat' (first
    | refine AW_seq_kn fun K hK => ?_
    | refine AW_block ?_
    | (refine does_call rfl rfl ?_; simp only [push_cast, seval, *]; refine ACall.monoP (hp2 _) ?_; (try simp only [push_cast, seval, *]))
    | ((first
      | refine AW_region_draw (id := 25) E0 (fun f => [].contains f) dLTO0 dATO0 mixed (by kernel_rfl) ?_
      | refine AW_region E0 ?_ | refine AW_ret ?_ | refine AW_exit ?_ | refine AW_skip ?_ | unfold retQ); try simp only [push_cast, seval, *])
    | ((first | (apply AW_cond; (case hc => (simp only [push_cast, seval]; rfl))) | (apply ER_guard; (case hb => (simp only [push_cast, seval]; rfl)))); all_goals ((intro hc; first | (exfalso; simp only [push_cast, seval, *] at hc; done) | (exact absurd hc (by decide)) | ((try first | rw [Bool.not_true] at hc | rw [Bool.not_false] at hc); first | (with_reducible replace hc := tTT hc); clear hc | (with_reducible replace hc := tFF hc); clear hc | (have hp := hc; try simp only [decide_eq_true_eq, decide_eq_false_iff_not, bA, bB, bC, bD, bE, bF, bG, bH] at hp))) <;> try simp only [push_cast, seval, *]))
    | (refine Kn.go hK ?_; clear hK K)
    | refine Kn.go (by assumption) ?_
    | (intro n hn; (try simp only [upd_none2, join_none_iff, ite_none, ne_eq] at hn); (try simp only [push_cast, seval, *]))
    | (intro hc)
    | (apply ER_blk; (case hp => rfl); (case hb => (simp only [push_cast, seval]; rfl)); (case hd => (simp only [push_cast, seval]; done)); (case h => (intro hc; simp only [push_cast, seval, *]; rfl)); simp only [push_cast, seval, *])
    | fail)
        exact ⟨_, _, Weak.refl _ _, by first | rfl | simp⟩
end Go.Proofs.Ytdeckjoeggmagaa
