/- CoordGathers. -/
import Derived.Test.YtlbdpnlmdcajbaaZ
import Derived.Test.YtlbdpnlmdcajbaaZJ
import Derived.Test.YtlbdpnlmdcajbaaZW
namespace Go.Proofs.Ytlbdpnlmdcajbaa
open Go.RowKit
open Nat renaming reduceEqDiff → nA, reduceLT → nB, reduceLeDiff → nC, reduceAdd → nD, reduceMul → nE, reduceSub → nF, reduceBEq → nG
open Int renaming reduceToNat → iA, reduceLT → iB, reduceLE → iC, reduceEq → iD
open Bool renaming and_eq_true → bA, or_eq_true → bB, or_eq_false_iff → bC, and_eq_false_iff → bD, not_eq_true' → bE, not_eq_false' → bF, not_true → bG, not_false → bH
set_option linter.all false
set_option maxHeartbeats 4000000
attribute [local irreducible] AW Does ACall tE tS tB tZ
def dLZX0 : List En := [(0, false, []), (1, false, []), (3, false, []), (4, false, []), (5, true, []), (6, true, []), (2, false, [5, 6]), (7, false, [5]), (8, false, []), (9, false, [])]
def dAZX0 : List (List Nat) := [[], [], [0, 1], [], [3], [3, 4], [], [6], [6, 7], [0, 1, 2, 3, 4, 5, 6, 7, 8]]
attribute [push_cast] dLZX0
def dLZX1 : List En := [(0, false, []), (1, true, []), (2, false, []), (3, false, []), (6, false, []), (7, true, []), (4, false, [1, 7]), (5, false, []), (8, false, []), (9, false, []), (10, false, []), (11, false, []), (12, true, []), (13, false, []), (14, false, []), (15, false, []), (16, false, [12]), (17, false, []), (18, false, []), (19, false, []), (20, false, [])]
def dAZX1 : List (List Nat) := [[], [0], [], [], [2, 3], [2, 3, 4], [], [6], [2, 3, 4, 5, 6, 7], [0, 1, 2, 3, 4, 5, 6, 7, 8], [0, 1, 2, 3, 4, 5, 6, 7, 8, 9], [0, 1, 2, 3, 4, 5, 6, 7, 8, 9, 10], [0, 1, 2, 3, 4, 5, 6, 7, 8, 9, 10, 11], [0, 1, 2, 3, 4, 5, 6, 7, 8, 9, 10], [0, 1, 2, 3, 4, 5, 6, 7, 8, 9, 10, 13], [0, 1, 2, 3, 4, 5, 6, 7, 8, 9, 10], [0, 1, 2, 3, 4, 5, 6, 7, 8, 9, 10, 13, 14, 15], [0, 1, 2, 3, 4, 5, 6, 7, 8, 9, 10, 13, 14, 15, 16], [0, 1, 2, 3, 4, 5, 6, 7, 8, 9, 10, 13, 14, 15, 16, 17], [0, 1, 2, 3, 4, 5, 6, 7, 8, 9, 10, 11, 12, 13, 14, 15, 16, 17, 18], [0, 1, 2, 3, 4, 5, 6, 7, 8, 9, 10, 11, 12, 13, 14, 15, 16, 17, 18, 19]]
attribute [push_cast] dLZX1
def dLZX2 : List En := [(0, false, []), (1, false, []), (3, false, []), (4, false, []), (5, true, []), (6, true, []), (7, false, []), (8, false, []), (2, false, [5, 6]), (9, false, [])]
def dAZX2 : List (List Nat) := [[], [], [0, 1], [], [3], [3, 4], [], [6], [6, 7], [0, 1, 2, 3, 4, 5, 6, 7, 8]]
attribute [push_cast] dLZX2
def dLZX3 : List En := [(0, false, []), (1, true, []), (2, false, []), (3, false, []), (6, false, []), (7, true, []), (4, false, [1, 7]), (5, false, [1, 7]), (8, false, []), (9, false, []), (10, false, []), (11, false, []), (12, true, []), (13, false, []), (14, false, []), (15, false, []), (16, false, []), (17, false, [12]), (18, false, []), (19, false, []), (20, false, [])]
def dAZX3 : List (List Nat) := [[], [0], [], [], [2, 3], [2, 3, 4], [], [6], [2, 3, 4, 5, 6, 7], [0, 1, 2, 3, 4, 5, 6, 7, 8], [0, 1, 2, 3, 4, 5, 6, 7, 8, 9], [0, 1, 2, 3, 4, 5, 6, 7, 8, 9, 10], [0, 1, 2, 3, 4, 5, 6, 7, 8, 9, 10, 11], [0, 1, 2, 3, 4, 5, 6, 7, 8, 9, 10], [0, 1, 2, 3, 4, 5, 6, 7, 8, 9, 10, 13], [0, 1, 2, 3, 4, 5, 6, 7, 8, 9, 10], [0, 1, 2, 3, 4, 5, 6, 7, 8, 9, 10, 13, 14, 15], [0, 1, 2, 3, 4, 5, 6, 7, 8, 9, 10, 13, 14, 15, 16], [0, 1, 2, 3, 4, 5, 6, 7, 8, 9, 10, 13, 14, 15, 16, 17], [0, 1, 2, 3, 4, 5, 6, 7, 8, 9, 10, 11, 12, 13, 14, 15, 16, 17, 18], [0, 1, 2, 3, 4, 5, 6, 7, 8, 9, 10, 11, 12, 13, 14, 15, 16, 17, 18, 19]]
attribute [push_cast] dLZX3
set_option maxRecDepth 5000

theorem tE_told : tE Try.prog 68 = none := by kernel_rfl
theorem tE_toldI : tE Try.prog 69 = none := by kernel_rfl
attribute [push_cast] tE_told tE_toldI
theorem info_m69 : (Try.prog.info? 69).bind (·.zero) = some (.map none) := by kernel_rfl
theorem zero_m69 (w : World) : (zeroValue 69).run Try.prog w = .ok (.map none) w := by
  have h := info_m69
  cases hi : Try.prog.info? 69 with
  | none => rw [hi] at h; cases h
  | some i =>
    rw [hi] at h
    have h2 : i.zero = some (.map none) := h
    simp [zeroValue, typeInfo, hi, h2, Sem.run_bind]
theorem info_by : (Try.prog.info? 45).bind (·.zero) = some (.slice none 0 0) := by kernel_rfl
theorem zero_by (w : World) : (zeroValue 45).run Try.prog w = .ok (.slice none 0 0) w := by
  have h := info_by
  cases hi : Try.prog.info? 45 with
  | none => rw [hi] at h; cases h
  | some i =>
    rw [hi] at h
    have h2 : i.zero = some (.slice none 0 0) := h
    simp [zeroValue, typeInfo, hi, h2, Sem.run_bind]
theorem short_fits' {c : Cd} (h : c.good) : (shortS c).pend.length ≤ 3 ∧ (shortS c).fits := by
  obtain ⟨h1, h2, h3⟩ := h
  refine ⟨by simp [shortS]; omega, h1.2.1, fun p hp => ?_⟩
  simp only [shortS, List.mem_map] at hp
  obtain ⟨q, hq, rfl⟩ := hp
  have hq2 := List.mem_of_mem_take hq
  refine ⟨(h3 q hq2).1, ?_⟩
  simp [shP, maxLen]; omega
theorem coordGathers_a (x : Cd) (hg : x.good) (l : List Op22) (hl : l.length ≤ maxLen ∧ ∀ o ∈ l, o.good) (H : Heap) :
    ACall Try.prog 8 [.g (Cd.av x), .l 8 (l.map Op22.av)] H fun r _ => r = .c (.bool true) := by
  obtain ⟨hl1, hl2⟩ := hl
  unfold maxLen at hl1
  have hsh := short_p x hg
  have hok := short_fits' hg
  generalize shortS x = c at *
  clear hg
  have hch := Check_p c (by have := hok.1; unfold maxLen; omega) hok.2.2
  have hfit := hok.2
  clear hok
  obtain ⟨e, k0, t, a, s, pe⟩ := c
  simp only [Cd.av] at hsh hch
  replace hl2 := Lib.hid hl2
  cases hco : cdOk ⟨e, k0, t, a, s, pe⟩
  · rw [hco] at hch
    simp only [if_false, Bool.false_eq_true] at hch
    refine ACall_of' Try.func8 rfl (Ent_of Try.func8 (by kernel_rfl) rfl) (by simp [Try.ntmps8]) ?_; simp only [Try.ntmps8, Try.results8]
    repeat' (first
    | refine AW_seq_kn fun K hK => ?_
    | refine AW_block ?_
    | (refine does_call rfl rfl ?_; simp only [push_cast, seval, *]; refine ACall.monoP (hsh _) ?_; (try simp only [push_cast, seval, *]))
    | (refine does_call rfl rfl ?_; simp only [push_cast, seval, *]; refine ACall.monoP (hch _) ?_; (try simp only [push_cast, seval, *]))
    | (refine does_call rfl rfl ?_; simp only [push_cast, seval, *]; refine ACall.monoP (wakes22_p _) ?_; (try simp only [push_cast, seval, *]))
    | ((first
      | refine AW_region_draw (id := 23) E0 (fun f => [].contains f) dLZX0 dAZX0 mixed (by kernel_rfl) ?_
      | refine AW_region_draw (id := 24) E0 (fun f => [].contains f) dLZX1 dAZX1 mixed (by kernel_rfl) ?_
      | refine AW_region E0 ?_ | refine AW_ret ?_ | refine AW_exit ?_ | refine AW_skip ?_ | unfold retQ); try simp only [push_cast, seval, *])
    | ((first | (apply AW_cond; (case hc => (simp only [push_cast, seval]; rfl))) | (apply ER_guard; (case hb => (simp only [push_cast, seval]; rfl)))); all_goals ((intro hc; first | (exfalso; simp only [push_cast, seval, *] at hc; done) | (exact absurd hc (by decide)) | ((try first | rw [Bool.not_true] at hc | rw [Bool.not_false] at hc); first | (with_reducible replace hc := tTT hc); clear hc | (with_reducible replace hc := tFF hc); clear hc | (have hp := hc; try simp only [decide_eq_true_eq, decide_eq_false_iff_not, bA, bB, bC, bD, bE, bF, bG, bH] at hp))) <;> try simp only [push_cast, seval, *]))
    | (refine Kn.go hK ?_; clear hK K)
    | refine Kn.go (by assumption) ?_
    | (intro n hn; (try simp only [upd_none2, join_none_iff, ite_none, ne_eq] at hn); (try simp only [push_cast, seval, *]))
    | (intro hc)
    | (apply ER_blk; (case hp => rfl); (case hb => (simp only [push_cast, seval]; rfl)); (case hd => (simp only [push_cast, seval]; done)); (case h => (intro hc; simp only [push_cast, seval, *]; rfl)); simp only [push_cast, seval, *])
    | fail)
    exact ⟨_, _, Weak.refl _ _, rfl⟩
  rw [hco] at hch
  simp only [if_true] at hch
  replace hco := Lib.hid hco
  replace hfit := Lib.hid hfit
  by_cases hp0 : (0 : Int) < pe.length
  · refine ACall_of' Try.func8 rfl (Ent_of Try.func8 (by kernel_rfl) rfl) (by simp [Try.ntmps8]) ?_; simp only [Try.ntmps8, Try.results8]
    repeat' (first
    | refine AW_seq_kn fun K hK => ?_
    | refine AW_block ?_
    | (refine does_call rfl rfl ?_; simp only [push_cast, seval, *]; refine ACall.monoP (hsh _) ?_; (try simp only [push_cast, seval, *]))
    | (refine does_call rfl rfl ?_; simp only [push_cast, seval, *]; refine ACall.monoP (hch _) ?_; (try simp only [push_cast, seval, *]))
    | (refine does_call rfl rfl ?_; simp only [push_cast, seval, *]; refine ACall.monoP (wakes22_p _) ?_; (try simp only [push_cast, seval, *]))
    | ((first
      | refine AW_region_draw (id := 23) E0 (fun f => [].contains f) dLZX0 dAZX0 mixed (by kernel_rfl) ?_
      | refine AW_region_draw (id := 24) E0 (fun f => [].contains f) dLZX1 dAZX1 mixed (by kernel_rfl) ?_
      | refine AW_region E0 ?_ | refine AW_ret ?_ | refine AW_exit ?_ | refine AW_skip ?_ | unfold retQ); try simp only [push_cast, seval, *])
    | ((first | (apply AW_cond; (case hc => (simp only [push_cast, seval]; rfl))) | (apply ER_guard; (case hb => (simp only [push_cast, seval]; rfl)))); all_goals ((intro hc; first | (exfalso; simp only [push_cast, seval, *] at hc; done) | (exact absurd hc (by decide)) | ((try first | rw [Bool.not_true] at hc | rw [Bool.not_false] at hc); first | (with_reducible replace hc := tTT hc); clear hc | (with_reducible replace hc := tFF hc); clear hc | (have hp := hc; try simp only [decide_eq_true_eq, decide_eq_false_iff_not, bA, bB, bC, bD, bE, bF, bG, bH] at hp))) <;> try simp only [push_cast, seval, *]))
    | (refine Kn.go hK ?_; clear hK K)
    | refine Kn.go (by assumption) ?_
    | (intro n hn; (try simp only [upd_none2, join_none_iff, ite_none, ne_eq] at hn); (try simp only [push_cast, seval, *]))
    | (intro hc)
    | (apply ER_blk; (case hp => rfl); (case hb => (simp only [push_cast, seval]; rfl)); (case hd => (simp only [push_cast, seval]; done)); (case h => (intro hc; simp only [push_cast, seval, *]; rfl)); simp only [push_cast, seval, *])
    | fail)
    exact ⟨_, _, Weak.refl _ _, rfl⟩
  have hpe : pe = [] := List.eq_nil_of_length_eq_zero (by omega)
  subst hpe
  clear hp0
  have hz0 : (([] : List Pd).map Pd.av) = [] := rfl
  refine ACall_of' Try.func8 rfl (Ent_of Try.func8 (by kernel_rfl) rfl) (by simp [Try.ntmps8]) ?_; simp only [Try.ntmps8, Try.results8]
  repeat' (first
    | (refine AW_atB (id := 7) ?_)
    | refine AW_seq_kn fun K hK => ?_
    | refine AW_block ?_
    | (refine does_call rfl rfl ?_; simp only [push_cast, seval, *]; refine ACall.monoP (hsh _) ?_; (try simp only [push_cast, seval, *]))
    | (refine does_call rfl rfl ?_; simp only [push_cast, seval, *]; refine ACall.monoP (hch _) ?_; (try simp only [push_cast, seval, *]))
    | (refine does_makeMap kU rfl ?_)
    | (refine does_call rfl rfl ?_; simp only [push_cast, seval, *]; refine ACall.monoP (wakes22_p _) ?_; (try simp only [push_cast, seval, *]))
    | ((first
      | refine AW_region_draw (id := 23) E0 (fun f => [].contains f) dLZX0 dAZX0 mixed (by kernel_rfl) ?_
      | refine AW_region_draw (id := 24) E0 (fun f => [].contains f) dLZX1 dAZX1 mixed (by kernel_rfl) ?_
      | refine AW_region E0 ?_ | refine AW_ret ?_ | refine AW_exit ?_ | refine AW_skip ?_ | unfold retQ); try simp only [push_cast, seval, *])
    | ((first | (apply AW_cond; (case hc => (simp only [push_cast, seval]; rfl))) | (apply ER_guard; (case hb => (simp only [push_cast, seval]; rfl)))); all_goals ((intro hc; first | (exfalso; simp only [push_cast, seval, *] at hc; done) | (exact absurd hc (by decide)) | ((try first | rw [Bool.not_true] at hc | rw [Bool.not_false] at hc); first | (with_reducible replace hc := tTT hc); clear hc | (with_reducible replace hc := tFF hc); clear hc | (have hp := hc; try simp only [decide_eq_true_eq, decide_eq_false_iff_not, bA, bB, bC, bD, bE, bF, bG, bH] at hp))) <;> try simp only [push_cast, seval, *]))
    | (refine Kn.go hK ?_; clear hK K)
    | refine Kn.go (by assumption) ?_
    | (intro n hn; (try simp only [upd_none2, join_none_iff, ite_none, ne_eq] at hn); (try simp only [push_cast, seval, *]))
    | (intro hc)
    | (apply ER_blk; (case hp => rfl); (case hb => (simp only [push_cast, seval]; rfl)); (case hd => (simp only [push_cast, seval]; done)); (case h => (intro hc; simp only [push_cast, seval, *]; rfl)); simp only [push_cast, seval, *])
    | fail)
  refine ⟨?_⟩
  rename_i n1 h1 n5 h5
  generalize n = n6 at *
  have n65 : ¬ n6 = n5 := hn.1.1
  have n56 : ¬ n5 = n6 := hn.1.2
  have hn6 : H n6 = none := hn.2.2
  have hn5 : H n5 = none := h5.2
  clear hn h5 hsh hch
  have hem : ∀ X : Heap, Heap.le (fun _ => none) X := fun X q u h => by cases h
  replace hem := Lib.hid hem
  refine AW_seqC [] (fun _ => none) ?_ ?_
  · repeat' (first
    | refine AW_seq_kn fun K hK => ?_
    | refine AW_block ?_
    | (refine does_call rfl rfl ?_; simp only [push_cast, seval, *]; refine ACall.monoP (wakes22_p _) ?_; (try simp only [push_cast, seval, *]))
    | ((first
      | refine AW_region_draw (id := 23) E0 (fun f => [].contains f) dLZX0 dAZX0 mixed (by kernel_rfl) ?_
      | refine AW_region_draw (id := 24) E0 (fun f => [].contains f) dLZX1 dAZX1 mixed (by kernel_rfl) ?_
      | refine AW_region E0 ?_ | refine AW_ret ?_ | refine AW_exit ?_ | refine AW_skip ?_ | unfold retQ); try simp only [push_cast, seval, *])
    | ((first | (apply AW_cond; (case hc => (simp only [push_cast, seval]; rfl))) | (apply ER_guard; (case hb => (simp only [push_cast, seval]; rfl)))); all_goals ((intro hc; first | (exfalso; simp only [push_cast, seval, *] at hc; done) | (exact absurd hc (by decide)) | ((try first | rw [Bool.not_true] at hc | rw [Bool.not_false] at hc); first | (with_reducible replace hc := tTT hc); clear hc | (with_reducible replace hc := tFF hc); clear hc | (have hp := hc; try simp only [decide_eq_true_eq, decide_eq_false_iff_not, bA, bB, bC, bD, bE, bF, bG, bH] at hp))) <;> try simp only [push_cast, seval, *]))
    | (refine Kn.go hK ?_; clear hK K)
    | refine Kn.go (by assumption) ?_
    | (intro n hn; (try simp only [upd_none2, join_none_iff, ite_none, ne_eq] at hn); (try simp only [push_cast, seval, *]))
    | (intro hc)
    | (apply ER_blk; (case hp => rfl); (case hb => (simp only [push_cast, seval]; rfl)); (case hd => (simp only [push_cast, seval]; done)); (case h => (intro hc; simp only [push_cast, seval, *]; rfl)); simp only [push_cast, seval, *])
    | fail)
    refine AW_loopX (σ := Cd × List (ME Int) × Nat × Heap) l.length (fun k s => cdOk s.1 = true ∧ s.1.fits ∧ MW M0 s.2.1 ∧ s.2.2.2 n5 = some (.r 30 6 1 [[.c (.int .u64 s.1.epoch), .c (.int .u64 s.1.counter), .c (.int .i64 s.1.tasks), .c (.int .i64 s.1.attempt), .c (.int .i64 s.1.span), .l 4 (s.1.pend.map Pd.av)]]) ∧ s.2.2.2 n6 = some (bm kU s.2.1 s.2.2.1 M0) ∧ ∃ f, GIn s.1.pend s.2.1 s.2.2.2 n6 f)
      (fun k s => [(5, .p n5 6 0 0), (6, .c (.map (some n6))), (27, .l 8 (l.map Op22.av)), (28, ci l.length), (29, ci k)]) (fun _ st => st.2.2.2) (⟨e, k0, t, a, s, []⟩, [], 0, upd (upd H n5 (.r 30 6 1 [[.c (.int .u64 e), .c (.int .u64 k0), .c (.int .i64 t), .c (.int .i64 a), .c (.int .i64 s), .l 4 []]])) n6 (bm kU [] 0 M0)) ⟨unhid hco, unhid hfit, MW.nil _, by simp only [upd_ne n56]; exact upd_same _ _ _, upd_same _ _ _, _, GIn.nil _ _ _⟩ ?_ ?_ ?_ ?_
    · (first | trivial | (simp only [push_cast, seval, *]; done))
    · (repeat' (first | exact Heap.le_refl _ | refine hle_upd2 ?_ _ _ | (refine Heap.le_new ?_ ?_; rotate_left 1; focus (first | assumption | (simp only [upd_none2, upd_get, ne_eq, push_cast, seval, *]; done) | (simp [upd_get, *]; done)))))
    · clear hco hfit h1 hz0
      clear e k0 t a s
      rintro k ⟨c, lo, ck, G⟩ hk ⟨hco, hfit, hmw, g5, g6, f, hin⟩
      have ho := List.getElem?_eq_getElem (l := l) hk; generalize l[k] = o at ho; have hom := List.mem_of_getElem? ho; have hkl : (k : Int) < l.length := (by omega); have hkw : IntKind.i64.wrap ((k : Int) + 1) = (k : Int) + 1 := wrap_i64 (by omega) (by omega)
      have hog := unhid hl2 o hom
      clear hom
      simp only at hco hfit hmw g5 g6 hin
      have o5 := ne_old g5
      have o6 := ne_old g6
      by_cases hi : (k : Int) = 60
      · have hl60 : (60 : Int) < l.length := by omega
        have ho60 : l[60]? = some o := by have e60 : k = 60 := by omega
                                          rw [← e60]; exact ho
        repeat' (first
    | refine AW_seq_kn fun K hK => ?_
    | refine AW_block ?_
    | (refine does_call rfl rfl ?_; simp only [push_cast, seval, *]; refine ACall.monoP (wakes22_p _) ?_; (try simp only [push_cast, seval, *]))
    | ((first
      | refine AW_region_draw (id := 23) E0 (fun f => [].contains f) dLZX0 dAZX0 mixed (by kernel_rfl) ?_
      | refine AW_region_draw (id := 24) E0 (fun f => [].contains f) dLZX1 dAZX1 mixed (by kernel_rfl) ?_
      | refine AW_region E0 ?_ | refine AW_ret ?_ | refine AW_exit ?_ | refine AW_skip ?_ | unfold retQ); try simp only [push_cast, seval, *])
    | ((first | (apply AW_cond; (case hc => (simp only [push_cast, seval]; rfl))) | (apply ER_guard; (case hb => (simp only [push_cast, seval]; rfl)))); all_goals ((intro hc; first | (exfalso; simp only [push_cast, seval, *] at hc; done) | (exact absurd hc (by decide)) | ((try first | rw [Bool.not_true] at hc | rw [Bool.not_false] at hc); first | (with_reducible replace hc := tTT hc); clear hc | (with_reducible replace hc := tFF hc); clear hc | (have hp := hc; try simp only [decide_eq_true_eq, decide_eq_false_iff_not, bA, bB, bC, bD, bE, bF, bG, bH] at hp))) <;> try simp only [push_cast, seval, *]))
    | (refine Kn.go hK ?_; clear hK K)
    | refine Kn.go (by assumption) ?_
    | (intro n hn; (try simp only [upd_none2, join_none_iff, ite_none, ne_eq] at hn); (try simp only [push_cast, seval, *]))
    | (intro hc)
    | (apply ER_blk; (case hp => rfl); (case hb => (simp only [push_cast, seval]; rfl)); (case hd => (simp only [push_cast, seval]; done)); (case h => (intro hc; simp only [push_cast, seval, *]; rfl)); simp only [push_cast, seval, *])
    | fail)
        exact ⟨trivial, by first | trivial | (first | trivial | (simp only [push_cast, seval, *]; done)), by first | trivial | exact unhid hem _⟩
      have hpl : c.pend.length ≤ maxLen := by have := (cdOk_bd hco).1; unfold maxLen; omega
      obtain ⟨kd, oat, onow, osv, ots, oan, ⟨ota, obs⟩⟩ := o
      have hav : Op22.av ⟨kd, oat, onow, osv, ots, oan, ⟨ota, obs⟩⟩ = [.c (.int .i64 kd), .c (.int .i64 oat), .c (.int .i64 onow), .c (.bool osv), .c (.int .i64 ots), .c (.int .i64 oan), .c (.int .i64 ota), .l 1 (obs.map by1)] := rfl
      have hnu := number_p ⟨kd, oat, onow, osv, ots, oan, ⟨ota, obs⟩⟩ c hpl
      have hru := run_p ⟨kd, oat, onow, osv, ots, oan, ⟨ota, obs⟩⟩ hog.2.2.2.2.2.2.1 c hpl hfit
      have hst := run_ok hco hfit ⟨kd, oat, onow, osv, ots, oan, ⟨ota, obs⟩⟩
      have hrn := run_new hco ⟨kd, oat, onow, osv, ots, oan, ⟨ota, obs⟩⟩
      have hra := run_ack hco ⟨kd, oat, onow, osv, ots, oan, ⟨ota, obs⟩⟩ hfit
      have hrf := run_full hco ⟨kd, oat, onow, osv, ots, oan, ⟨ota, obs⟩⟩
      have hro := run_old hco ⟨kd, oat, onow, osv, ots, oan, ⟨ota, obs⟩⟩
      have hak := opAck_p ⟨kd, oat, onow, osv, ots, oan, ⟨ota, obs⟩⟩ hog.2.2.2.2.2.2.1
      have hoc : octs (opAck ⟨kd, oat, onow, osv, ots, oan, ⟨ota, obs⟩⟩).bytes := hog.2.2.2.2.2.2.2.take 3001
      have hat : (opAck ⟨kd, oat, onow, osv, ots, oan, ⟨ota, obs⟩⟩).task = ota := rfl
      have hkb := kdS_bd ⟨kd, oat, onow, osv, ots, oan, ⟨ota, obs⟩⟩
      obtain ⟨U, hU⟩ : ∃ U, IntKind.u64.wrap kd = U := ⟨_, rfl⟩
      have hkd : kdS ⟨kd, oat, onow, osv, ots, oan, ⟨ota, obs⟩⟩ = U.tmod 10 := by rw [← hU]; rfl
      rw [hkd] at hkb hra hrn hrf hro
      simp only [newO, goneO, overO, hkd] at hst
      clear hkd
      have hnl : ∀ q ∈ c.pend, q.num ≤ numS c.epoch c.counter := fun q hq => num_le hco hfit hq
      generalize opAck ⟨kd, oat, onow, osv, ots, oan, ⟨ota, obs⟩⟩ = A at *
      generalize numO ⟨kd, oat, onow, osv, ots, oan, ⟨ota, obs⟩⟩ c = nn at *
      generalize runS ⟨kd, oat, onow, osv, ots, oan, ⟨ota, obs⟩⟩ c = T at *
      obtain ⟨⟨te, tk, tt, ta, tsp, tp⟩, tn, tal, tac, tgo, ter⟩ := T
      obtain ⟨At, Ab⟩ := A
      simp only at hat hoc
      replace hat := hat.symm
      subst hat
      simp only [Cd.av, Told.cl, hav] at hnu hru
      simp only [hav, Ak.av] at hak
      simp only at hst hrn hra hrf hro
      replace hst := Lib.hid hst
      replace hrn := Lib.hid hrn
      replace hra := Lib.hid hra
      replace hrf := Lib.hid hrf
      replace hro := Lib.hid hro
      replace hfit := Lib.hid hfit
      replace hco := Lib.hid hco
      replace hnl := Lib.hid hnl
      replace hmw := Lib.hid hmw
      replace hin := Lib.hid hin
      replace hak := Lib.hid hak
      clear hog hl2
      by_cases he : ter = 0
      case neg =>
        repeat' (first
    | refine AW_seq_kn fun K hK => ?_
    | refine AW_block ?_
    | (refine does_call rfl rfl ?_; simp only [push_cast, seval, *]; refine ACall.monoP (hnu _) ?_; (try simp only [push_cast, seval, *]))
    | (refine does_call rfl rfl ?_; simp only [push_cast, seval, *]; refine ACall.monoP (hru _) ?_; (try simp only [push_cast, seval, *]))
    | (refine does_call rfl rfl ?_; simp only [push_cast, seval, *]; refine ACall.monoP (wakes22_p _) ?_; (try simp only [push_cast, seval, *]))
    | ((first
      | refine AW_region_draw (id := 23) E0 (fun f => [].contains f) dLZX0 dAZX0 mixed (by kernel_rfl) ?_
      | refine AW_region_draw (id := 24) E0 (fun f => [].contains f) dLZX1 dAZX1 mixed (by kernel_rfl) ?_
      | refine AW_region E0 ?_ | refine AW_ret ?_ | refine AW_exit ?_ | refine AW_skip ?_ | unfold retQ); try simp only [push_cast, seval, *])
    | ((first | (apply AW_cond; (case hc => (simp only [push_cast, seval]; rfl))) | (apply ER_guard; (case hb => (simp only [push_cast, seval]; rfl)))); all_goals ((intro hc; first | (exfalso; simp only [push_cast, seval, *] at hc; done) | (exact absurd hc (by decide)) | ((try first | rw [Bool.not_true] at hc | rw [Bool.not_false] at hc); first | (with_reducible replace hc := tTT hc); clear hc | (with_reducible replace hc := tFF hc); clear hc | (have hp := hc; try simp only [decide_eq_true_eq, decide_eq_false_iff_not, bA, bB, bC, bD, bE, bF, bG, bH] at hp))) <;> try simp only [push_cast, seval, *]))
    | (refine Kn.go hK ?_; clear hK K)
    | refine Kn.go (by assumption) ?_
    | (intro n hn; (try simp only [upd_none2, join_none_iff, ite_none, ne_eq] at hn); (try simp only [push_cast, seval, *]))
    | (intro hc)
    | (apply ER_blk; (case hp => rfl); (case hb => (simp only [push_cast, seval]; rfl)); (case hd => (simp only [push_cast, seval]; done)); (case h => (intro hc; simp only [push_cast, seval, *]; rfl)); simp only [push_cast, seval, *])
    | fail)
        exact ⟨(c, lo, ck, G), ⟨unhid hco, unhid hfit, unhid hmw, g5, g6, f, unhid hin⟩, by first | trivial | (first | trivial | (simp only [push_cast, seval, *]; done)), by (repeat' (first | exact Heap.le_refl _ | refine hle_upd2 ?_ _ _ | (refine Heap.le_new ?_ ?_; rotate_left 1; focus (first | assumption | (simp only [upd_none2, upd_get, ne_eq, push_cast, seval, *]; done) | (simp [upd_get, *]; done)))))⟩
      case pos =>
      subst he
      repeat' (first
    | (refine AW_atB (id := 14) ?_)
    | refine AW_seq_kn fun K hK => ?_
    | refine AW_block ?_
    | (refine does_call rfl rfl ?_; simp only [push_cast, seval, *]; refine ACall.monoP (hnu _) ?_; (try simp only [push_cast, seval, *]))
    | (refine does_call rfl rfl ?_; simp only [push_cast, seval, *]; refine ACall.monoP (hru _) ?_; (try simp only [push_cast, seval, *]))
    | (refine does_call rfl rfl ?_; simp only [push_cast, seval, *]; refine ACall.monoP (wakes22_p _) ?_; (try simp only [push_cast, seval, *]))
    | ((first
      | refine AW_region_draw (id := 23) E0 (fun f => [].contains f) dLZX0 dAZX0 mixed (by kernel_rfl) ?_
      | refine AW_region_draw (id := 24) E0 (fun f => [].contains f) dLZX1 dAZX1 mixed (by kernel_rfl) ?_
      | refine AW_region E0 ?_ | refine AW_ret ?_ | refine AW_exit ?_ | refine AW_skip ?_ | unfold retQ); try simp only [push_cast, seval, *])
    | ((first | (apply AW_cond; (case hc => (simp only [push_cast, seval]; rfl))) | (apply ER_guard; (case hb => (simp only [push_cast, seval]; rfl)))); all_goals ((intro hc; first | (exfalso; simp only [push_cast, seval, *] at hc; done) | (exact absurd hc (by decide)) | ((try first | rw [Bool.not_true] at hc | rw [Bool.not_false] at hc); first | (with_reducible replace hc := tTT hc); clear hc | (with_reducible replace hc := tFF hc); clear hc | (have hp := hc; try simp only [decide_eq_true_eq, decide_eq_false_iff_not, bA, bB, bC, bD, bE, bF, bG, bH] at hp))) <;> try simp only [push_cast, seval, *]))
    | (refine Kn.go hK ?_; clear hK K)
    | refine Kn.go (by assumption) ?_
    | (intro n hn; (try simp only [upd_none2, join_none_iff, ite_none, ne_eq] at hn); (try simp only [push_cast, seval, *]))
    | (intro hc)
    | (apply ER_blk; (case hp => rfl); (case hb => (simp only [push_cast, seval]; rfl)); (case hd => (simp only [push_cast, seval]; done)); (case h => (intro hc; simp only [push_cast, seval, *]; rfl)); simp only [push_cast, seval, *])
    | fail)
      refine ⟨?_⟩
      rename_i n8 h8
      generalize n = n10 at *
      obtain ⟨⟨q1, q2, -⟩, qn, -⟩ := unhid hst rfl
      have hnt : U.tmod 10 < 2 → numS c.epoch c.counter < tn := fun h => (qn h).1
      replace hnt := Lib.hid hnt
      clear qn
      obtain ⟨tb, htb⟩ : ∃ tb : Blk, tb = .r 52 11 1 [[.c (.int .u64 te), .c (.int .u64 tk), .c (.int .i64 tt), .c (.int .i64 ta), .c (.int .i64 tsp), .l 4 (tp.map Pd.av), .c (.int .u64 tn), .c (.bool tal), .l 2 (tac.map Ak.av), .l 1 (tgo.map iu), .c (.int .i64 0)]] := ⟨_, rfl⟩
      obtain ⟨B, hB⟩ : ∃ B : Heap, B = upd (upd G n8 (.r 49 8 1 [[.c (.int .i64 kd), .c (.int .i64 oat), .c (.int .i64 onow), .c (.bool osv), .c (.int .i64 ots), .c (.int .i64 oan), .c (.int .i64 ota), .l 1 (obs.map by1)]])) n10 tb := ⟨_, rfl⟩
      have hBG : Heap.le G B := by rw [hB]; (repeat' (first | exact Heap.le_refl _ | refine hle_upd2 ?_ _ _ | (refine Heap.le_new ?_ ?_; rotate_left 1; focus (first | assumption | (simp only [upd_none2, upd_get, ne_eq, push_cast, seval, *]; done) | (simp [upd_get, *]; done)))))
      have b5 := hBG _ _ g5
      have b6 := hBG _ _ g6
      have b8 : B n8 = some (.r 49 8 1 [[.c (.int .i64 kd), .c (.int .i64 oat), .c (.int .i64 onow), .c (.bool osv), .c (.int .i64 ots), .c (.int .i64 oan), .c (.int .i64 ota), .l 1 (obs.map by1)]]) := by rw [hB]; simp only [push_cast, seval, upd_get, *]
      have b10t : B n10 = some tb := by rw [hB]; exact upd_same _ _ _
      have b10 := b10t
      rw [htb] at b10
      rw [htb] at hB
      rw [← hB]
      have hBn : ∀ q, B q = none → G q = none := fun q hq => by
        cases hg : G q with
        | none => rfl
        | some u => rw [hBG _ _ hg] at hq; cases hq
      have hB6 : ∀ m li cj Mi, m ≠ n6 → G m = some (bm kI li cj Mi) → B m = some (bm kI li cj Mi) := fun m li cj Mi _ h => hBG _ _ h
      clear o5 o6 hB h8 hn g5 g6 hst hru hnu
      have o5 := ne_old b5
      have o6 := ne_old b6
      have o8 := ne_old b8
      have o10 := ne_old b10
      have p65 : ¬ n6 = n5 := n65
      have n10_5 : ¬ n10 = n5 := fun h => by rw [h, b5] at b10; simp at b10
      have n10_6 : ¬ n10 = n6 := fun h => by rw [h, b6] at b10; cases b10
      have n8_6 : ¬ n8 = n6 := fun h => by rw [h, b6] at b8; cases b8
      have n6_10 : ¬ n6 = n10 := fun h => n10_6 h.symm
      have n5_10 : ¬ n5 = n10 := fun h => n10_5 h.symm
      have n6_8 : ¬ n6 = n8 := fun h => n8_6 h.symm
      replace hBG := Lib.hid hBG
      replace hBn := Lib.hid hBn
      replace hB6 := Lib.hid hB6
      replace b10t := Lib.hid b10t
      replace htb := Lib.hid htb
      replace q1 := Lib.hid q1
      replace q2 := Lib.hid q2
      refine AW_seqX (σ := List (ME Int) × Nat × Heap) (fun st => MW M0 st.1 ∧ st.2.2 n5 = some (.r 30 6 1 [[.c (.int .u64 c.epoch), .c (.int .u64 c.counter), .c (.int .i64 c.tasks), .c (.int .i64 c.attempt), .c (.int .i64 c.span), .l 4 (c.pend.map Pd.av)]]) ∧ st.2.2 n6 = some (bm kU st.1 st.2.1 M0) ∧ st.2.2 n10 = some tb ∧ ∃ f, GIn tp st.1 st.2.2 n6 f)
        (fun st => [(5, .p n5 6 0 0), (6, .c (.map (some n6))), (10, .p n10 11 0 0), (27, .l 8 (l.map Op22.av)), (28, ci l.length), (29, ci k)]) (fun st => st.2.2) ?_ ?_
      · have hcs : U.tmod 10 < 2 ∨ (¬ U.tmod 10 < 2 ∧ U.tmod 10 < 5) ∨ (U.tmod 10 = 7 ∨ U.tmod 10 = 8) ∨ (U.tmod 10 = 5 ∨ U.tmod 10 = 6 ∨ U.tmod 10 = 9) := by omega
        rcases hcs with hkk | ⟨hkk, hk5⟩ | hkk | hkk
        · have htp := unhid hrn hkk rfl
          have hcs2 : U.tmod 10 = 0 ∨ U.tmod 10 = 1 := by omega
          have hnlt := unhid hnt hkk
          clear hrn hra hrf hro hkb hkk hnt
          replace hnlt := Lib.hid hnlt
          replace htp := Lib.hid htp
          rcases hcs2 with hkk | hkk
          all_goals
            repeat' (first
    | refine AW_seq_kn fun K hK => ?_
    | refine AW_block ?_
    | (refine does_makeMap kI rfl ?_)
    | (refine does_mapUpdateC (n := n6) (enc := kU) (l := lo) (c := ck) (M := M0) (k := tn) (v := .map (some _)) kkU (.inl rfl) (by simp only [push_cast, seval, *]) (by simp only [push_cast, seval, *]) tU68 (by simp only [push_cast, seval, *]; exact IsK.c _) (by simp only [push_cast, seval, *]; exact IsK.c _) ?_; (try simp only [push_cast, seval, *]))
    | (refine does_call rfl rfl ?_; simp only [push_cast, seval, *]; refine ACall.monoP (wakes22_p _) ?_; (try simp only [push_cast, seval, *]))
    | ((first
      | refine AW_region_draw (id := 23) E0 (fun f => [].contains f) dLZX0 dAZX0 mixed (by kernel_rfl) ?_
      | refine AW_region_draw (id := 24) E0 (fun f => [].contains f) dLZX1 dAZX1 mixed (by kernel_rfl) ?_
      | refine AW_region E0 ?_ | refine AW_ret ?_ | refine AW_exit ?_ | refine AW_skip ?_ | unfold retQ); try simp only [push_cast, seval, *])
    | ((first | (apply AW_cond; (case hc => (simp only [push_cast, seval]; rfl))) | (apply ER_guard; (case hb => (simp only [push_cast, seval]; rfl)))); all_goals ((intro hc; first | (exfalso; simp only [push_cast, seval, *] at hc; done) | (exact absurd hc (by decide)) | ((try first | rw [Bool.not_true] at hc | rw [Bool.not_false] at hc); first | (with_reducible replace hc := tTT hc); clear hc | (with_reducible replace hc := tFF hc); clear hc | (have hp := hc; try simp only [decide_eq_true_eq, decide_eq_false_iff_not, bA, bB, bC, bD, bE, bF, bG, bH] at hp))) <;> try simp only [push_cast, seval, *]))
    | (refine Kn.go hK ?_; clear hK K)
    | refine Kn.go (by assumption) ?_
    | (intro n hn; (try simp only [upd_none2, join_none_iff, ite_none, ne_eq] at hn); (try simp only [push_cast, seval, *]))
    | (intro hc)
    | (apply ER_blk; (case hp => rfl); (case hb => (simp only [push_cast, seval]; rfl)); (case hd => (simp only [push_cast, seval]; done)); (case h => (intro hc; simp only [push_cast, seval, *]; rfl)); simp only [push_cast, seval, *])
    | fail)
            have hu := unhid htp
            refine ⟨(mput tn (.map (some n)) (.c (.map (some n))) ck lo, mclk tn lo ck, upd (upd B n (bm kI [] 0 M0)) n6 (bm kU (mput tn (.map (some n)) (.c (.map (some n))) ck lo) (mclk tn lo ck) M0)), ⟨(unhid hmw).put (Mem.le.refl _) (.c _), ?_, upd_same _ _ _, ?_, fun k => if k = tn then n else f k, ?_⟩, by (first | trivial | (simp only [push_cast, seval, *]; done)), Heap.le_refl _⟩
            · show upd (upd B n _) n6 _ n5 = _
              rw [upd_ne n56, upd_ne (of_eq_false (o5 n hn).1)]; exact b5
            · show upd (upd B n _) n6 _ n10 = _
              rw [upd_ne n10_6, upd_ne (of_eq_false (o10 n hn).1)]; exact unhid b10t
            · rw [hu]
              refine GIn.new (p := ⟨tn, onow, osv, []⟩) (unhid hin) (fun q hq => ?_) rfl (unhid hBn n hn) (of_eq_false (o6 n hn).2) ?_ ?_ _ _
              · have := unhid hnl q hq; have := unhid hnlt; simp only; omega
              · show upd (upd B n (bm kI [] 0 M0)) n6 _ n = _
                rw [upd_ne (of_eq_false (o6 n hn).2), upd_same]
              · intro m li cj Mi hm6 hm
                have hBm := unhid hB6 m li cj Mi hm6 hm
                have : m ≠ n := fun h => by rw [h, hn] at hBm; cases hBm
                show upd (upd B n (bm kI [] 0 M0)) n6 _ m = _
                rw [upd_ne hm6, upd_ne this]; exact hBm
        · obtain ⟨i, p, hpi, hpn, hac, hhas, htp, hall, hms⟩ := unhid hra hkk hk5 rfl
          obtain ⟨hl1, hb6, li, cj, Mi, hGb, hga⟩ := (unhid hin).b p (List.mem_of_getElem? hpi)
          have hnd := (pdGo_nums ((cdOk_iff _).1 (unhid hco)).2).1
          have hmi := cMissing_p ⟨te, tk, tt, ta, tsp, tp⟩ (by have := (cdOk_bd (unhid q1)).1; simp only at this ⊢; unfold maxLen; omega) (unhid q2).2 nn
          obtain ⟨EG, qe, qa, qm⟩ := two_env (unhid hak) hmi (by decide)
          simp only [Cd.av] at qm hmi
          have hBb := unhid hBG _ _ hGb
          have hinj : ∀ m li cj Mi, m ≠ n6 → m ≠ f p.num → G m = some (bm kI li cj Mi) → B m = some (bm kI li cj Mi) := fun m li cj Mi _ _ h => unhid hBG _ _ h
          obtain ⟨b, hb⟩ : ∃ b, f p.num = b := ⟨_, rfl⟩
          rw [hb] at hl1 hb6 hBb hGb
          have hlk : ((mget nn lo).map ME.y).getD (.c (.map none)) = .c (.map (some b)) := by rw [← hpn, hl1]; rfl
          have ob := ne_old hBb
          have nb5 : ¬ b = n5 := fun h => by rw [h, b5] at hBb; cases hBb
          have nb8 : ¬ b = n8 := fun h => by rw [h, b8] at hBb; cases hBb
          have nb10 : ¬ b = n10 := fun h => by rw [h, b10] at hBb; cases hBb
          have n5b : ¬ n5 = b := fun h => nb5 h.symm
          have n8b : ¬ n8 = b := fun h => nb8 h.symm
          have n10b : ¬ n10 = b := fun h => nb10 h.symm
          have n6b : ¬ n6 = b := fun h => hb6 h.symm
          have hmi2 : MW Mi li := hga.mw
          generalize missS ⟨te, tk, tt, ta, tsp, tp⟩ nn = Z at *
          have hcs2 : U.tmod 10 = 2 ∨ U.tmod 10 = 3 ∨ U.tmod 10 = 4 := by omega
          clear hrn hra hrf hro hkb hkk hk5 hnt hl1 hGb
          replace htp := Lib.hid htp
          replace hac := Lib.hid hac
          replace hhas := Lib.hid hhas
          replace hga := Lib.hid hga
          replace hall := Lib.hid hall
          replace hms := Lib.hid hms
          replace hlk := Lib.hid hlk
          replace hmi2 := Lib.hid hmi2
          replace hpi := Lib.hid hpi
          replace hpn := Lib.hid hpn
          replace hb := Lib.hid hb
          replace hnd := Lib.hid hnd
          replace hmi := Lib.hid hmi
          rcases hcs2 with hkk | hkk | hkk
          all_goals
            repeat' (first
    | refine AW_seq_kn fun K hK => ?_
    | refine AW_block ?_
    | (refine does_lookupV (enc := kU) (n := n6) (l := lo) (c := ck) (M := M0) (k := nn) (z := .map none) (zA := .c (.map none)) kkU rfl (by simp only [push_cast, seval, *]) (by simp only [push_cast, seval, *]) (unhid hmw) tU68 zero_m69 (fun _ => .c _) (by simp only [push_cast, seval, *]; exact IsK.c _) (unhid hlk) ?_; (try simp only [push_cast, seval, *]))
    | (refine does_isnil_m (b := b) rfl (by simp only [push_cast, seval, *]) (by simp only [push_cast, seval, *]) tU69 ?_; (try simp only [push_cast, seval, *]))
    | (refine does_mapUpdate (enc := kI) (n := b) (l := li) (c := cj) (M := Mi) (k := ota) kkI (.inl rfl) (by simp only [push_cast, seval, *]) (by simp only [push_cast, seval, *]) tU69 (by simp only [push_cast, seval, *]; exact IsK.c _) ?_; intro v2 M2 hM2 hV2; (try simp only [push_cast, seval] at hV2); replace hM2 := Lib.hid hM2; replace hV2 := Lib.hid hV2; (try simp only [push_cast, seval, *]))
    | (refine does_call rfl rfl ?_; simp only [push_cast, seval, *]; refine ACall.monoP (wakes22_p _) ?_; (try simp only [push_cast, seval, *]))
    | ((first
      | refine AW_region_draw (id := 23) EG (fun f => [28, 29, 1000003].contains f) dLZX2 dAZX2 mixed (by kernel_rfl) ?_
      | refine AW_region_draw (id := 24) EG (fun f => [28, 29, 1000003].contains f) dLZX3 dAZX3 mixed (by kernel_rfl) ?_
      | refine AW_region EG ?_ | refine AW_ret ?_ | refine AW_exit ?_ | refine AW_skip ?_ | unfold retQ); try simp only [push_cast, seval, *])
    | ((first | (apply AW_cond; (case hc => (simp only [push_cast, seval]; rfl))) | (apply ER_guard; (case hb => (simp only [push_cast, seval]; rfl)))); all_goals ((intro hc; first | (exfalso; simp only [push_cast, seval, *] at hc; done) | (exact absurd hc (by decide)) | ((try first | rw [Bool.not_true] at hc | rw [Bool.not_false] at hc); first | (with_reducible replace hc := tTT hc); clear hc | (with_reducible replace hc := tFF hc); clear hc | (have hp := hc; try simp only [decide_eq_true_eq, decide_eq_false_iff_not, bA, bB, bC, bD, bE, bF, bG, bH] at hp))) <;> try simp only [push_cast, seval, *]))
    | (refine Kn.go hK ?_; clear hK K)
    | refine Kn.go (by assumption) ?_
    | (intro n hn; (try simp only [upd_none2, join_none_iff, ite_none, ne_eq] at hn); (try simp only [push_cast, seval, *]))
    | (intro hc)
    | (apply ER_blk; (case hp => rfl); (case hb => (simp only [push_cast, seval]; rfl)); (case hd => (simp only [push_cast, seval]; done)); (case h => (intro hc; simp only [push_cast, seval, *]; rfl)); simp only [push_cast, seval, *])
    | fail)
            have hput := (unhid hga).put (a := ⟨ota, Ab⟩) (unhid hac) (unhid hhas) hoc (unhid hM2) (unhid hV2) cj
            have hlen := hput.len
            rw [putAk_len] at hlen
            have hms' := unhid hms
            have hall' := unhid hall
            (try simp only at hms')
            (try simp only at hall')
            have hL3 : ((mput ota v2 (.l 1 (Ab.map by1)) cj li).length : Int) = (p.acks.length : Int) + 1 := by
              have : (mput ota v2 (.l 1 (Ab.map by1)) cj li).length = p.acks.length + 1 := hlen
              omega
            have hput' : GA (putAk p.acks ⟨ota, Ab⟩) (mput ota v2 (.l 1 (Ab.map by1)) cj li) M2 := hput
            clear hput hlen
            generalize mput ota v2 (.l 1 (Ab.map by1)) cj li = L2 at *
            generalize mclk ota li cj = cl2 at *
            replace hput' := Lib.hid hput'
            have hfin : MW M0 lo ∧ upd B b (bm kI L2 cl2 M2) n5 = some (.r 30 6 1 [[.c (.int .u64 c.epoch), .c (.int .u64 c.counter), .c (.int .i64 c.tasks), .c (.int .i64 c.attempt), .c (.int .i64 c.span), .l 4 (c.pend.map Pd.av)]]) ∧ upd B b (bm kI L2 cl2 M2) n6 = some (bm kU lo ck M0) ∧ upd B b (bm kI L2 cl2 M2) n10 = some tb ∧ ∃ f, GIn tp lo (upd B b (bm kI L2 cl2 M2)) n6 f := by
              refine ⟨unhid hmw, by rw [upd_ne n5b]; exact b5, by rw [upd_ne n6b]; exact b6, by rw [upd_ne n10b]; exact unhid b10t, f, ?_⟩
              · have hb2 := unhid hb
                have htp2 := unhid htp
                (try simp only at htp2)
                rw [htp2]
                refine (unhid hin).ack (unhid hnd) (unhid hpi) rfl (li := L2) (ci := cl2) (Mi := M2) (by rw [hb2]; exact upd_same _ _ _) (unhid hput') ?_
                intro m li' cj' Mi' hm6 hmb hm
                rw [hb2] at hmb
                rw [upd_ne hmb]; exact unhid hBG _ _ hm
            replace hfin := Lib.hid hfin
            by_cases hfull : (p.acks.length : Int) + 1 = c.tasks
            · rw [decide_eq_true hfull] at hall'
              have hZ : Z = [] := List.eq_nil_of_length_eq_zero (by omega)
              rw [hfull] at hL3
              clear hms' hms
              refine does_lenM (enc := kI) (n := b) (l := L2) (c := cl2) (M := M2) rfl (by simp only [push_cast, seval, *]) (by simp only [push_cast, seval, *]) tU69 ?_
              (try simp only [push_cast, seval, *])
              repeat' (first
    | refine AW_seq_kn fun K hK => ?_
    | refine AW_block ?_
    | (refine does_call rfl rfl ?_; simp only [push_cast, seval, *]; refine ACall.monoP (wakes22_p _) ?_; (try simp only [push_cast, seval, *]))
    | ((first
      | refine AW_region_draw (id := 23) EG (fun f => [28, 29, 1000003].contains f) dLZX2 dAZX2 mixed (by kernel_rfl) ?_
      | refine AW_region_draw (id := 24) EG (fun f => [28, 29, 1000003].contains f) dLZX3 dAZX3 mixed (by kernel_rfl) ?_
      | refine AW_region EG ?_ | refine AW_ret ?_ | refine AW_exit ?_ | refine AW_skip ?_ | unfold retQ); try simp only [push_cast, seval, *])
    | ((first | (apply AW_cond; (case hc => (simp only [push_cast, seval]; rfl))) | (apply ER_guard; (case hb => (simp only [push_cast, seval]; rfl)))); all_goals ((intro hc; first | (exfalso; simp only [push_cast, seval, *] at hc; done) | (exact absurd hc (by decide)) | ((try first | rw [Bool.not_true] at hc | rw [Bool.not_false] at hc); first | (with_reducible replace hc := tTT hc); clear hc | (with_reducible replace hc := tFF hc); clear hc | (have hp := hc; try simp only [decide_eq_true_eq, decide_eq_false_iff_not, bA, bB, bC, bD, bE, bF, bG, bH] at hp))) <;> try simp only [push_cast, seval, *]))
    | (refine Kn.go hK ?_; clear hK K)
    | refine Kn.go (by assumption) ?_
    | (intro n hn; (try simp only [upd_none2, join_none_iff, ite_none, ne_eq] at hn); (try simp only [push_cast, seval, *]))
    | (intro hc)
    | (apply ER_blk; (case hp => rfl); (case hb => (simp only [push_cast, seval]; rfl)); (case hd => (simp only [push_cast, seval]; done)); (case h => (intro hc; simp only [push_cast, seval, *]; rfl)); simp only [push_cast, seval, *])
    | fail)
              exact ⟨(lo, ck, upd B b (bm kI L2 cl2 M2)), unhid hfin, by (first | trivial | (simp only [push_cast, seval, *]; done)), Heap.le_refl _⟩
            · rw [decide_eq_false hfull] at hall'
              have hZ : ¬ (Z.length : Int) = 0 := by omega
              have hL4 : ¬ ((L2.length : Int) = c.tasks) := by omega
              clear hms' hms hL3
              refine does_lenM (enc := kI) (n := b) (l := L2) (c := cl2) (M := M2) rfl (by simp only [push_cast, seval, *]) (by simp only [push_cast, seval, *]) tU69 ?_
              (try simp only [push_cast, seval, *])
              repeat' (first
    | refine AW_seq_kn fun K hK => ?_
    | refine AW_block ?_
    | (refine does_call rfl rfl ?_; simp only [push_cast, seval, *]; refine ACall.monoP (wakes22_p _) ?_; (try simp only [push_cast, seval, *]))
    | ((first
      | refine AW_region_draw (id := 23) EG (fun f => [28, 29, 1000003].contains f) dLZX2 dAZX2 mixed (by kernel_rfl) ?_
      | refine AW_region_draw (id := 24) EG (fun f => [28, 29, 1000003].contains f) dLZX3 dAZX3 mixed (by kernel_rfl) ?_
      | refine AW_region EG ?_ | refine AW_ret ?_ | refine AW_exit ?_ | refine AW_skip ?_ | unfold retQ); try simp only [push_cast, seval, *])
    | ((first | (apply AW_cond; (case hc => (simp only [push_cast, seval]; rfl))) | (apply ER_guard; (case hb => (simp only [push_cast, seval]; rfl)))); all_goals ((intro hc; first | (exfalso; simp only [push_cast, seval, *] at hc; done) | (exact absurd hc (by decide)) | ((try first | rw [Bool.not_true] at hc | rw [Bool.not_false] at hc); first | (with_reducible replace hc := tTT hc); clear hc | (with_reducible replace hc := tFF hc); clear hc | (have hp := hc; try simp only [decide_eq_true_eq, decide_eq_false_iff_not, bA, bB, bC, bD, bE, bF, bG, bH] at hp))) <;> try simp only [push_cast, seval, *]))
    | (refine Kn.go hK ?_; clear hK K)
    | refine Kn.go (by assumption) ?_
    | (intro n hn; (try simp only [upd_none2, join_none_iff, ite_none, ne_eq] at hn); (try simp only [push_cast, seval, *]))
    | (intro hc)
    | (apply ER_blk; (case hp => rfl); (case hb => (simp only [push_cast, seval]; rfl)); (case hd => (simp only [push_cast, seval]; done)); (case h => (intro hc; simp only [push_cast, seval, *]; rfl)); simp only [push_cast, seval, *])
    | fail)
              exact ⟨(lo, ck, upd B b (bm kI L2 cl2 M2)), unhid hfin, by (first | trivial | (simp only [push_cast, seval, *]; done)), Heap.le_refl _⟩
        · obtain ⟨p, hpm, hpn, htac, hlen, hidx⟩ := unhid hrf hkk rfl
          obtain ⟨hl1, hb6, li, cj, Mi, hGb, hga⟩ := (unhid hin).b p hpm
          have hro2 := unhid hro (by omega) rfl
          have hfin : MW M0 lo ∧ B n5 = some (.r 30 6 1 [[.c (.int .u64 c.epoch), .c (.int .u64 c.counter), .c (.int .i64 c.tasks), .c (.int .i64 c.attempt), .c (.int .i64 c.span), .l 4 (c.pend.map Pd.av)]]) ∧ B n6 = some (bm kU lo ck M0) ∧ B n10 = some tb ∧ ∃ f, GIn tp lo B n6 f :=
            ⟨unhid hmw, b5, b6, unhid b10t, f, (unhid hin).sub hro2 (unhid hB6)⟩
          have hBb := unhid hBG _ _ hGb
          obtain ⟨b, hb⟩ : ∃ b, f p.num = b := ⟨_, rfl⟩
          rw [hb] at hl1 hb6 hBb hGb
          have hlk : ((mget nn lo).map ME.y).getD (.c (.map none)) = .c (.map (some b)) := by rw [← hpn, hl1]; rfl
          have ob := ne_old hBb
          subst htac
          have hpl3 : p.acks.length ≤ 16 := by
            have h16 := ((headOk_iff c).1 ((cdOk_iff c).1 (unhid hco)).1).2.2.1
            omega
          clear hrn hra hrf hro hro2 hkb hnt hl1 hGb hb6 hb
          replace hfin := Lib.hid hfin
          replace hidx := Lib.hid hidx
          replace hga := Lib.hid hga
          replace hlk := Lib.hid hlk
          rcases hkk with hkk | hkk
          all_goals
            repeat' (first
    | refine AW_seq_kn fun K hK => ?_
    | refine AW_block ?_
    | (refine does_call rfl rfl ?_; simp only [push_cast, seval, *]; refine ACall.monoP (wakes22_p _) ?_; (try simp only [push_cast, seval, *]))
    | ((first
      | refine AW_region_draw (id := 23) E0 (fun f => [].contains f) dLZX0 dAZX0 mixed (by kernel_rfl) ?_
      | refine AW_region_draw (id := 24) E0 (fun f => [].contains f) dLZX1 dAZX1 mixed (by kernel_rfl) ?_
      | refine AW_region E0 ?_ | refine AW_ret ?_ | refine AW_exit ?_ | refine AW_skip ?_ | unfold retQ); try simp only [push_cast, seval, *])
    | ((first | (apply AW_cond; (case hc => (simp only [push_cast, seval]; rfl))) | (apply ER_guard; (case hb => (simp only [push_cast, seval]; rfl)))); all_goals ((intro hc; first | (exfalso; simp only [push_cast, seval, *] at hc; done) | (exact absurd hc (by decide)) | ((try first | rw [Bool.not_true] at hc | rw [Bool.not_false] at hc); first | (with_reducible replace hc := tTT hc); clear hc | (with_reducible replace hc := tFF hc); clear hc | (have hp := hc; try simp only [decide_eq_true_eq, decide_eq_false_iff_not, bA, bB, bC, bD, bE, bF, bG, bH] at hp))) <;> try simp only [push_cast, seval, *]))
    | (refine Kn.go hK ?_; clear hK K)
    | refine Kn.go (by assumption) ?_
    | (intro n hn; (try simp only [upd_none2, join_none_iff, ite_none, ne_eq] at hn); (try simp only [push_cast, seval, *]))
    | (intro hc)
    | (apply ER_blk; (case hp => rfl); (case hb => (simp only [push_cast, seval]; rfl)); (case hd => (simp only [push_cast, seval]; done)); (case h => (intro hc; simp only [push_cast, seval, *]; rfl)); simp only [push_cast, seval, *])
    | fail)
            refine AW_loopN p.acks.length (fun _ => True) (fun q => [(5, .p n5 6 0 0), (6, .c (.map (some n6))), (9, .c (.int .u64 nn)), (10, .p n10 11 0 0), (27, .l 8 (l.map Op22.av)), (28, ci l.length), (29, ci k), (104, .l 2 (p.acks.map Ak.av)), (105, ci p.acks.length), (106, ci q)]) (fun _ => B) trivial ?_ ?_ ?_ ?_
            · (first | trivial | (simp only [push_cast, seval, *]; done))
            · (repeat' (first | exact Heap.le_refl _ | refine hle_upd2 ?_ _ _ | (refine Heap.le_new ?_ ?_; rotate_left 1; focus (first | assumption | (simp only [upd_none2, upd_get, ne_eq, push_cast, seval, *]; done) | (simp [upd_get, *]; done)))))
            · intro j hj _
              obtain ⟨PA, hPA⟩ : ∃ PA, p.acks = PA := ⟨_, rfl⟩
              rw [hPA] at hj hidx hga hlen hpl3 ⊢
              have hw := List.getElem?_eq_getElem (l := PA) hj; generalize PA[j] = w at hw; have hwm := List.mem_of_getElem? hw; have hjl : (j : Int) < PA.length := (by omega); have hjw : IntKind.i64.wrap ((j : Int) + 1) = (j : Int) + 1 := wrap_i64 (by omega) (by omega)
              have hjt : (j : Int) < c.tasks := by omega
              have hwt := unhid hidx j w hw
              have hgv := (unhid hga).v (j : Int)
              rw [find_at (unhid hidx) hw] at hgv
              have hwo := (unhid hga).oc w hwm
              have hmi2 := (unhid hga).mw
              obtain ⟨wt, wb⟩ := w
              simp only at hwt hwo
              subst hwt
              have hlk2 : ((mget (j : Int) li).map ME.y).getD (.c (.slice none 0 0)) = .l 1 (wb.map by1) := by rw [hgv]; rfl
              have hbe := bytesEq_p wb wb hwo hwo
              rw [decide_eq_true rfl] at hbe
              have hav2 : Ak.av ⟨(j : Int), wb⟩ = [.c (.int .i64 (j : Int)), .l 1 (wb.map by1)] := rfl
              clear hgv hwo hwm hPA
              replace hlk2 := Lib.hid hlk2
              replace hmi2 := Lib.hid hmi2
              repeat' (first
    | refine AW_seq_kn fun K hK => ?_
    | refine AW_block ?_
    | (refine does_lookupV (enc := kU) (n := n6) (l := lo) (c := ck) (M := M0) (k := nn) (z := .map none) (zA := .c (.map none)) kkU rfl (by simp only [push_cast, seval, *]) (by simp only [push_cast, seval, *]) (unhid hmw) tU68 zero_m69 (fun _ => .c _) (by simp only [push_cast, seval, *]; exact IsK.c _) (unhid hlk) ?_; (try simp only [push_cast, seval, *]))
    | (refine does_lookupV (enc := kI) (n := b) (l := li) (c := cj) (M := Mi) (k := (j : Int)) (z := .slice none 0 0) (zA := .c (.slice none 0 0)) kkI rfl (by simp only [push_cast, seval, *]) (by simp only [push_cast, seval, *]) (unhid hmi2) tU69 zero_by (fun _ => .c _) (by simp only [push_cast, seval, *]; exact IsK.c _) (unhid hlk2) ?_; (try simp only [push_cast, seval, *]))
    | (refine does_call rfl rfl ?_; simp only [push_cast, seval, *]; refine ACall.monoP (hbe _) ?_; (try simp only [push_cast, seval, *]))
    | (refine does_call rfl rfl ?_; simp only [push_cast, seval, *]; refine ACall.monoP (wakes22_p _) ?_; (try simp only [push_cast, seval, *]))
    | ((first
      | refine AW_region_draw (id := 23) E0 (fun f => [].contains f) dLZX0 dAZX0 mixed (by kernel_rfl) ?_
      | refine AW_region_draw (id := 24) E0 (fun f => [].contains f) dLZX1 dAZX1 mixed (by kernel_rfl) ?_
      | refine AW_region E0 ?_ | refine AW_ret ?_ | refine AW_exit ?_ | refine AW_skip ?_ | unfold retQ); try simp only [push_cast, seval, *])
    | ((first | (apply AW_cond; (case hc => (simp only [push_cast, seval]; rfl))) | (apply ER_guard; (case hb => (simp only [push_cast, seval]; rfl)))); all_goals ((intro hc; first | (exfalso; simp only [push_cast, seval, *] at hc; done) | (exact absurd hc (by decide)) | ((try first | rw [Bool.not_true] at hc | rw [Bool.not_false] at hc); first | (with_reducible replace hc := tTT hc); clear hc | (with_reducible replace hc := tFF hc); clear hc | (have hp := hc; try simp only [decide_eq_true_eq, decide_eq_false_iff_not, bA, bB, bC, bD, bE, bF, bG, bH] at hp))) <;> try simp only [push_cast, seval, *]))
    | (refine Kn.go hK ?_; clear hK K)
    | refine Kn.go (by assumption) ?_
    | (intro n hn; (try simp only [upd_none2, join_none_iff, ite_none, ne_eq] at hn); (try simp only [push_cast, seval, *]))
    | (intro hc)
    | (apply ER_blk; (case hp => rfl); (case hb => (simp only [push_cast, seval]; rfl)); (case hd => (simp only [push_cast, seval]; done)); (case h => (intro hc; simp only [push_cast, seval, *]; rfl)); simp only [push_cast, seval, *])
    | fail)
              exact ⟨trivial, by first | trivial | (first | trivial | (simp only [push_cast, seval, *]; done)), by first | trivial | (repeat' (first | exact Heap.le_refl _ | refine hle_upd2 ?_ _ _ | (refine Heap.le_new ?_ ?_; rotate_left 1; focus (first | assumption | (simp only [upd_none2, upd_get, ne_eq, push_cast, seval, *]; done) | (simp [upd_get, *]; done)))))⟩
            · intro _
              repeat' (first
    | refine AW_seq_kn fun K hK => ?_
    | refine AW_block ?_
    | (refine does_call rfl rfl ?_; simp only [push_cast, seval, *]; refine ACall.monoP (wakes22_p _) ?_; (try simp only [push_cast, seval, *]))
    | ((first
      | refine AW_region_draw (id := 23) E0 (fun f => [].contains f) dLZX0 dAZX0 mixed (by kernel_rfl) ?_
      | refine AW_region_draw (id := 24) E0 (fun f => [].contains f) dLZX1 dAZX1 mixed (by kernel_rfl) ?_
      | refine AW_region E0 ?_ | refine AW_ret ?_ | refine AW_exit ?_ | refine AW_skip ?_ | unfold retQ); try simp only [push_cast, seval, *])
    | ((first | (apply AW_cond; (case hc => (simp only [push_cast, seval]; rfl))) | (apply ER_guard; (case hb => (simp only [push_cast, seval]; rfl)))); all_goals ((intro hc; first | (exfalso; simp only [push_cast, seval, *] at hc; done) | (exact absurd hc (by decide)) | ((try first | rw [Bool.not_true] at hc | rw [Bool.not_false] at hc); first | (with_reducible replace hc := tTT hc); clear hc | (with_reducible replace hc := tFF hc); clear hc | (have hp := hc; try simp only [decide_eq_true_eq, decide_eq_false_iff_not, bA, bB, bC, bD, bE, bF, bG, bH] at hp))) <;> try simp only [push_cast, seval, *]))
    | (refine Kn.go hK ?_; clear hK K)
    | refine Kn.go (by assumption) ?_
    | (intro n hn; (try simp only [upd_none2, join_none_iff, ite_none, ne_eq] at hn); (try simp only [push_cast, seval, *]))
    | (intro hc)
    | (apply ER_blk; (case hp => rfl); (case hb => (simp only [push_cast, seval]; rfl)); (case hd => (simp only [push_cast, seval]; done)); (case h => (intro hc; simp only [push_cast, seval, *]; rfl)); simp only [push_cast, seval, *])
    | fail)
              exact ⟨(lo, ck, B), unhid hfin, by (first | trivial | (simp only [push_cast, seval, *]; done)), Heap.le_refl _⟩
        · have hro2 := unhid hro (by omega) rfl
          have hfin : MW M0 lo ∧ B n5 = some (.r 30 6 1 [[.c (.int .u64 c.epoch), .c (.int .u64 c.counter), .c (.int .i64 c.tasks), .c (.int .i64 c.attempt), .c (.int .i64 c.span), .l 4 (c.pend.map Pd.av)]]) ∧ B n6 = some (bm kU lo ck M0) ∧ B n10 = some tb ∧ ∃ f, GIn tp lo B n6 f :=
            ⟨unhid hmw, b5, b6, unhid b10t, f, (unhid hin).sub hro2 (unhid hB6)⟩
          clear hrn hra hrf hro hro2 hkb hnt
          replace hfin := Lib.hid hfin
          rcases hkk with hkk | hkk | hkk
          all_goals
            repeat' (first
    | refine AW_seq_kn fun K hK => ?_
    | refine AW_block ?_
    | (refine does_call rfl rfl ?_; simp only [push_cast, seval, *]; refine ACall.monoP (wakes22_p _) ?_; (try simp only [push_cast, seval, *]))
    | ((first
      | refine AW_region_draw (id := 23) E0 (fun f => [].contains f) dLZX0 dAZX0 mixed (by kernel_rfl) ?_
      | refine AW_region_draw (id := 24) E0 (fun f => [].contains f) dLZX1 dAZX1 mixed (by kernel_rfl) ?_
      | refine AW_region E0 ?_ | refine AW_ret ?_ | refine AW_exit ?_ | refine AW_skip ?_ | unfold retQ); try simp only [push_cast, seval, *])
    | ((first | (apply AW_cond; (case hc => (simp only [push_cast, seval]; rfl))) | (apply ER_guard; (case hb => (simp only [push_cast, seval]; rfl)))); all_goals ((intro hc; first | (exfalso; simp only [push_cast, seval, *] at hc; done) | (exact absurd hc (by decide)) | ((try first | rw [Bool.not_true] at hc | rw [Bool.not_false] at hc); first | (with_reducible replace hc := tTT hc); clear hc | (with_reducible replace hc := tFF hc); clear hc | (have hp := hc; try simp only [decide_eq_true_eq, decide_eq_false_iff_not, bA, bB, bC, bD, bE, bF, bG, bH] at hp))) <;> try simp only [push_cast, seval, *]))
    | (refine Kn.go hK ?_; clear hK K)
    | refine Kn.go (by assumption) ?_
    | (intro n hn; (try simp only [upd_none2, join_none_iff, ite_none, ne_eq] at hn); (try simp only [push_cast, seval, *]))
    | (intro hc)
    | (apply ER_blk; (case hp => rfl); (case hb => (simp only [push_cast, seval]; rfl)); (case hd => (simp only [push_cast, seval]; done)); (case h => (intro hc; simp only [push_cast, seval, *]; rfl)); simp only [push_cast, seval, *])
    | fail)
            exact ⟨(lo, ck, B), unhid hfin, by (first | trivial | (simp only [push_cast, seval, *]; done)), Heap.le_refl _⟩
      · rintro ⟨lo2, ck2, G2⟩ ⟨hmw2, c5, c6, c10, f2, hin2⟩
        simp only at hmw2 c5 c6 c10 hin2
        rw [unhid htb] at c10
        clear b5 b6 b8 b10 o5 o6 o8 o10
        have o5 := ne_old c5
        replace hmw2 := Lib.hid hmw2
        replace hin2 := Lib.hid hin2
        repeat' (first
    | refine AW_seq_kn fun K hK => ?_
    | refine AW_block ?_
    | (refine does_call rfl rfl ?_; simp only [push_cast, seval, *]; refine ACall.monoP (wakes22_p _) ?_; (try simp only [push_cast, seval, *]))
    | ((first
      | refine AW_region_draw (id := 23) E0 (fun f => [].contains f) dLZX0 dAZX0 mixed (by kernel_rfl) ?_
      | refine AW_region_draw (id := 24) E0 (fun f => [].contains f) dLZX1 dAZX1 mixed (by kernel_rfl) ?_
      | refine AW_region E0 ?_ | refine AW_ret ?_ | refine AW_exit ?_ | refine AW_skip ?_ | unfold retQ); try simp only [push_cast, seval, *])
    | ((first | (apply AW_cond; (case hc => (simp only [push_cast, seval]; rfl))) | (apply ER_guard; (case hb => (simp only [push_cast, seval]; rfl)))); all_goals ((intro hc; first | (exfalso; simp only [push_cast, seval, *] at hc; done) | (exact absurd hc (by decide)) | ((try first | rw [Bool.not_true] at hc | rw [Bool.not_false] at hc); first | (with_reducible replace hc := tTT hc); clear hc | (with_reducible replace hc := tFF hc); clear hc | (have hp := hc; try simp only [decide_eq_true_eq, decide_eq_false_iff_not, bA, bB, bC, bD, bE, bF, bG, bH] at hp))) <;> try simp only [push_cast, seval, *]))
    | (refine Kn.go hK ?_; clear hK K)
    | refine Kn.go (by assumption) ?_
    | (intro n hn; (try simp only [upd_none2, join_none_iff, ite_none, ne_eq] at hn); (try simp only [push_cast, seval, *]))
    | (intro hc)
    | (apply ER_blk; (case hp => rfl); (case hb => (simp only [push_cast, seval]; rfl)); (case hd => (simp only [push_cast, seval]; done)); (case h => (intro hc; simp only [push_cast, seval, *]; rfl)); simp only [push_cast, seval, *])
    | fail)
        refine ⟨(⟨te, tk, tt, ta, tsp, tp⟩, lo2, ck2, upd G2 n5 (.r 30 6 1 [[.c (.int .u64 te), .c (.int .u64 tk), .c (.int .i64 tt), .c (.int .i64 ta), .c (.int .i64 tsp), .l 4 (tp.map Pd.av)]])), ⟨unhid q1, unhid q2, unhid hmw2, upd_same _ _ _, ?_, f2, (unhid hin2).sub (fun _ h => h) ?_⟩, by (first | trivial | (simp only [push_cast, seval, *]; done)), Heap.le_refl _⟩
        · show upd G2 n5 _ n6 = _
          rw [upd_ne n65]; exact c6
        · intro m li cj Mi _ hm
          have : m ≠ n5 := fun h => by rw [h, c5] at hm; cases hm
          show upd G2 n5 _ m = _
          rw [upd_ne this]; exact hm
    · rintro ⟨c, lo', ck', G⟩ -
      repeat' (first
    | refine AW_seq_kn fun K hK => ?_
    | refine AW_block ?_
    | (refine does_call rfl rfl ?_; simp only [push_cast, seval, *]; refine ACall.monoP (wakes22_p _) ?_; (try simp only [push_cast, seval, *]))
    | ((first
      | refine AW_region_draw (id := 23) E0 (fun f => [].contains f) dLZX0 dAZX0 mixed (by kernel_rfl) ?_
      | refine AW_region_draw (id := 24) E0 (fun f => [].contains f) dLZX1 dAZX1 mixed (by kernel_rfl) ?_
      | refine AW_region E0 ?_ | refine AW_ret ?_ | refine AW_exit ?_ | refine AW_skip ?_ | unfold retQ); try simp only [push_cast, seval, *])
    | ((first | (apply AW_cond; (case hc => (simp only [push_cast, seval]; rfl))) | (apply ER_guard; (case hb => (simp only [push_cast, seval]; rfl)))); all_goals ((intro hc; first | (exfalso; simp only [push_cast, seval, *] at hc; done) | (exact absurd hc (by decide)) | ((try first | rw [Bool.not_true] at hc | rw [Bool.not_false] at hc); first | (with_reducible replace hc := tTT hc); clear hc | (with_reducible replace hc := tFF hc); clear hc | (have hp := hc; try simp only [decide_eq_true_eq, decide_eq_false_iff_not, bA, bB, bC, bD, bE, bF, bG, bH] at hp))) <;> try simp only [push_cast, seval, *]))
    | (refine Kn.go hK ?_; clear hK K)
    | refine Kn.go (by assumption) ?_
    | (intro n hn; (try simp only [upd_none2, join_none_iff, ite_none, ne_eq] at hn); (try simp only [push_cast, seval, *]))
    | (intro hc)
    | (apply ER_blk; (case hp => rfl); (case hb => (simp only [push_cast, seval]; rfl)); (case hd => (simp only [push_cast, seval]; done)); (case h => (intro hc; simp only [push_cast, seval, *]; rfl)); simp only [push_cast, seval, *])
    | fail)
      exact ⟨trivial, trivial, by first | trivial | exact unhid hem _⟩
  · repeat' (first
    | refine AW_seq_kn fun K hK => ?_
    | refine AW_block ?_
    | (refine does_call rfl rfl ?_; simp only [push_cast, seval, *]; refine ACall.monoP (wakes22_p _) ?_; (try simp only [push_cast, seval, *]))
    | ((first
      | refine AW_region_draw (id := 23) E0 (fun f => [].contains f) dLZX0 dAZX0 mixed (by kernel_rfl) ?_
      | refine AW_region_draw (id := 24) E0 (fun f => [].contains f) dLZX1 dAZX1 mixed (by kernel_rfl) ?_
      | refine AW_region E0 ?_ | refine AW_ret ?_ | refine AW_exit ?_ | refine AW_skip ?_ | unfold retQ); try simp only [push_cast, seval, *])
    | ((first | (apply AW_cond; (case hc => (simp only [push_cast, seval]; rfl))) | (apply ER_guard; (case hb => (simp only [push_cast, seval]; rfl)))); all_goals ((intro hc; first | (exfalso; simp only [push_cast, seval, *] at hc; done) | (exact absurd hc (by decide)) | ((try first | rw [Bool.not_true] at hc | rw [Bool.not_false] at hc); first | (with_reducible replace hc := tTT hc); clear hc | (with_reducible replace hc := tFF hc); clear hc | (have hp := hc; try simp only [decide_eq_true_eq, decide_eq_false_iff_not, bA, bB, bC, bD, bE, bF, bG, bH] at hp))) <;> try simp only [push_cast, seval, *]))
    | (refine Kn.go hK ?_; clear hK K)
    | refine Kn.go (by assumption) ?_
    | (intro n hn; (try simp only [upd_none2, join_none_iff, ite_none, ne_eq] at hn); (try simp only [push_cast, seval, *]))
    | (intro hc)
    | (apply ER_blk; (case hp => rfl); (case hb => (simp only [push_cast, seval]; rfl)); (case hd => (simp only [push_cast, seval]; done)); (case h => (intro hc; simp only [push_cast, seval, *]; rfl)); simp only [push_cast, seval, *])
    | fail)
    exact ⟨_, _, Weak.refl _ _, rfl⟩
end Go.Proofs.Ytlbdpnlmdcajbaa
