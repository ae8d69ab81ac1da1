/- CoordTells. -/
import Derived.Test.YtlbdpnlmdcajbaaZ
import Derived.Test.YtlbdpnlmdcajbaaZE
import Derived.Test.YtlbdpnlmdcajbaaZG
import Derived.Test.YtlbdpnlmdcajbaaZI
import Derived.Test.YtlbdpnlmdcajbaaZJ
import Derived.Test.YtlbdpnlmdcajbaaZM
namespace Go.Proofs.Ytlbdpnlmdcajbaa
open Go.RowKit
open Nat renaming reduceEqDiff → nA, reduceLT → nB, reduceLeDiff → nC, reduceAdd → nD, reduceMul → nE, reduceSub → nF, reduceBEq → nG
open Int renaming reduceToNat → iA, reduceLT → iB, reduceLE → iC, reduceEq → iD
open Bool renaming and_eq_true → bA, or_eq_true → bB, or_eq_false_iff → bC, and_eq_false_iff → bD, not_eq_true' → bE, not_eq_false' → bF, not_true → bG, not_false → bH
set_option linter.all false
set_option maxHeartbeats 4000000
attribute [local irreducible] AW Does ACall tE tS tB tZ
def dLZN0 : List En := [(0, false, []), (2, false, []), (3, false, []), (4, true, []), (1, false, [4, 6, 7]), (5, false, [6, 7]), (6, false, []), (7, false, []), (8, false, []), (9, false, [])]
def dAZN0 : List (List Nat) := [[], [0], [], [2], [2, 3], [0, 1, 2, 3, 4], [], [], [0, 1, 2, 3, 4, 5, 6, 7], [0, 1, 2, 3, 4, 5, 6, 7, 8]]
attribute [push_cast] dLZN0
def dLZN1 : List En := [(0, false, []), (1, false, []), (2, false, []), (3, false, []), (4, false, []), (5, false, []), (6, false, []), (7, false, []), (8, false, []), (9, false, []), (10, false, []), (11, false, []), (12, false, []), (13, false, []), (14, false, []), (16, true, []), (17, true, []), (15, false, [16, 17]), (18, false, []), (19, false, []), (20, false, []), (21, false, []), (22, true, []), (23, false, []), (24, false, [22]), (25, false, []), (26, false, []), (27, false, [])]
def dAZN1 : List (List Nat) := [[], [0], [], [0, 1, 2], [0, 1, 2, 3], [0, 1, 2, 3, 4], [0, 1, 2, 3, 4, 5], [0, 1, 2, 3, 4, 5, 6], [0, 1, 2, 3, 4, 5, 6, 7], [0, 1, 2, 3, 4, 5, 6, 7, 8], [0, 1, 2, 3, 4, 5, 6, 7, 8, 9], [0, 1, 2, 3, 4, 5, 6, 7, 8, 9, 10], [0, 1, 2, 3, 4, 5, 6, 7, 8, 9, 10, 11], [0, 1, 2, 3, 4, 5, 6, 7, 8, 9, 10, 11, 12], [0, 1, 2, 3, 4, 5, 6, 7, 8, 9, 10, 11, 12], [0, 1, 2, 3, 4, 5, 6, 7, 8, 9, 10, 11, 12, 13, 14], [0, 1, 2, 3, 4, 5, 6, 7, 8, 9, 10, 11, 12], [0, 1, 2, 3, 4, 5, 6, 7, 8, 9, 10, 11, 12], [0, 1, 2, 3, 4, 5, 6, 7, 8, 9, 10, 11, 12, 13, 14, 15, 16, 17], [0, 1, 2, 3, 4, 5, 6, 7, 8, 9, 10, 11, 12, 13, 14, 15, 16, 17, 18], [0, 1, 2, 3, 4, 5, 6, 7, 8, 9, 10, 11, 12, 13, 14, 15, 16, 17, 18, 19], [0, 1, 2, 3, 4, 5, 6, 7, 8, 9, 10, 11, 12, 13, 14, 15, 16, 17, 18, 19, 20], [0, 1, 2, 3, 4, 5, 6, 7, 8, 9, 10, 11, 12, 13, 14, 15, 16, 17, 18, 19, 20, 21], [0, 1, 2, 3, 4, 5, 6, 7, 8, 9, 10, 11, 12, 13, 14, 15, 16, 17, 18, 19, 20, 21], [0, 1, 2, 3, 4, 5, 6, 7, 8, 9, 10, 11, 12, 13, 14, 15, 16, 17, 18, 19, 20, 21, 23], [0, 1, 2, 3, 4, 5, 6, 7, 8, 9, 10, 11, 12, 13, 14, 15, 16, 17, 18, 19, 20, 21, 22, 23, 24], [0, 1, 2, 3, 4, 5, 6, 7, 8, 9, 10, 11, 12, 13, 14, 15, 16, 17, 18, 19, 20, 21, 22, 23, 24, 25], [0, 1, 2, 3, 4, 5, 6, 7, 8, 9, 10, 11, 12, 13, 14, 15, 16, 17, 18, 19, 20, 21, 22, 23, 24, 25, 26]]
attribute [push_cast] dLZN1
def dLZN2 : List En := [(0, false, []), (1, false, []), (2, false, []), (3, false, []), (4, false, []), (5, false, []), (6, false, []), (7, false, []), (8, false, [])]
def dAZN2 : List (List Nat) := [[], [], [0, 1], [0, 1, 2], [], [], [4, 5], [4, 5, 6], [0, 1, 2, 3, 4, 5, 6, 7]]
attribute [push_cast] dLZN2
set_option maxRecDepth 5000

structure Cd.ok (c : Cd) : Prop where
  l : c.pend.length ≤ 3
  f : ∀ p ∈ c.pend, p.fits
  o : c.fine
  a : ∀ p ∈ c.pend, p.acks.length ≤ maxLen
  w : c.fits
theorem short_ok {c : Cd} (h : c.good) : (shortS c).ok := by
  obtain ⟨h1, h2, h3⟩ := h
  have hp : ∀ p ∈ (shortS c).pend, ∃ q ∈ c.pend, p = shP q := fun p hp => by
    simp only [shortS, List.mem_map] at hp
    obtain ⟨q, hq, rfl⟩ := hp
    exact ⟨q, List.mem_of_mem_take hq, rfl⟩
  have ha : ∀ p ∈ (shortS c).pend, p.acks.length ≤ maxLen := fun p hq => by
    obtain ⟨q, hq, rfl⟩ := hp p hq
    simp [shP, maxLen]; omega
  have hf : ∀ p ∈ (shortS c).pend, p.fits := fun p hq => by
    have := ha p hq
    obtain ⟨q, hq2, rfl⟩ := hp p hq
    exact ⟨(h3 q hq2).1, this⟩
  refine ⟨by simp [shortS]; omega, hf, ⟨by simp [shortS, maxLen]; omega, fun p hq => ⟨ha p hq, fun a hA => ?_⟩⟩, ha, ⟨h1.2.1, hf⟩⟩
  obtain ⟨q, hq2, rfl⟩ := hp p hq
  simp only [shP, List.mem_map] at hA
  obtain ⟨b, hb, rfl⟩ := hA
  exact ((h3 q hq2).2.2.2 b (List.mem_of_mem_take hb)).2.2.take 3001
theorem missS_len (c : Cd) (nm : Int) : (missS c nm).length ≤ 16 := by
  unfold missS
  by_cases h : cdOk c = false
  · rw [if_pos h]; simp
  · rw [if_neg h]
    by_cases g : fndS c.pend nm < 0
    · rw [if_pos g]; simp
    · rw [if_neg g]
      have h2 := cdOk_ep (c := c) (by simpa using h)
      have h3 := List.length_filter_le (fun t : Nat => !hasT (pdAt c nm).acks (t : Int)) (List.range c.tasks.toNat)
      rw [List.length_range] at h3
      unfold missR; omega
theorem coordTells_a (l : List Cd) (hl : l.length ≤ maxLen) (hg : ∀ c ∈ l, c.good) (m : List Int) (hm : m.length ≤ maxLen ∧ ∀ x ∈ m, u64b x) (H : Heap) :
    ACall Try.prog 7 [.l 6 (l.map Cd.av), .l 1 (m.map ru)] H fun r _ => r = .c (.bool true) := by
  obtain ⟨hm1, -⟩ := hm
  unfold maxLen at hl hm1
  replace hg := Lib.hid hg
  refine ACall_of' Try.func7 rfl (Ent_of Try.func7 (by kernel_rfl) rfl) (by simp [Try.ntmps7]) ?_; simp only [Try.ntmps7, Try.results7]
  repeat' (first
    | refine AW_seq_kn fun K hK => ?_
    | refine AW_block ?_
    | (refine does_call rfl rfl ?_; simp only [push_cast, seval, *]; refine ACall.monoP (wakes22_p _) ?_; (try simp only [push_cast, seval, *]))
    | ((first
      | refine AW_region_draw (id := 7) E0 (fun f => [].contains f) dLZN0 dAZN0 mixed (by kernel_rfl) ?_
      | refine AW_region_draw (id := 10) E0 (fun f => [].contains f) dLZN1 dAZN1 mixed (by kernel_rfl) ?_
      | refine AW_region_draw (id := 27) E0 (fun f => [].contains f) dLZN2 dAZN2 mixed (by kernel_rfl) ?_
      | refine AW_region E0 ?_ | refine AW_ret ?_ | refine AW_exit ?_ | refine AW_skip ?_ | unfold retQ); try simp only [push_cast, seval, *])
    | ((first | (apply AW_cond; (case hc => (simp only [push_cast, seval]; rfl))) | (apply ER_guard; (case hb => (simp only [push_cast, seval]; rfl)))); all_goals ((intro hc; first | (exfalso; simp only [push_cast, seval, *] at hc; done) | (exact absurd hc (by decide)) | ((try first | rw [Bool.not_true] at hc | rw [Bool.not_false] at hc); first | (with_reducible replace hc := tTT hc); clear hc | (with_reducible replace hc := tFF hc); clear hc | (have hp := hc; try simp only [decide_eq_true_eq, decide_eq_false_iff_not, bA, bB, bC, bD, bE, bF, bG, bH] at hp))) <;> try simp only [push_cast, seval, *]))
    | (refine Kn.go hK ?_; clear hK K)
    | refine Kn.go (by assumption) ?_
    | (intro n hn; (try simp only [upd_none2, join_none_iff, ite_none, ne_eq] at hn); (try simp only [push_cast, seval, *]))
    | (intro hc)
    | (apply ER_blk; (case hp => rfl); (case hb => (simp only [push_cast, seval]; rfl)); (case hd => (simp only [push_cast, seval]; done)); (case h => (intro hc; simp only [push_cast, seval, *]; rfl)); simp only [push_cast, seval, *])
    | fail)
  refine AW_loopN l.length (fun _ => True) (fun k => [(0, .l 6 (l.map Cd.av)), (1, .l 1 (m.map ru)), (18, .l 6 (l.map Cd.av)), (19, ci l.length), (20, ci k)]) (fun _ => H) trivial ?_ ?_ ?_ ?_
  · (first | trivial | (simp only [push_cast, seval, *]; done))
  · (repeat' (first | exact Heap.le_refl _ | refine hle_upd2 ?_ _ _ | (refine Heap.le_new ?_ ?_; rotate_left 1; focus (first | assumption | (simp only [upd_none2, upd_get, ne_eq, push_cast, seval, *]; done) | (simp [upd_get, *]; done)))))
  · intro k hk _
    have hx := List.getElem?_eq_getElem (l := l) hk; generalize l[k] = x at hx; have hxm := List.mem_of_getElem? hx; have hkl : (k : Int) < l.length := (by omega); have hkw : IntKind.i64.wrap ((k : Int) + 1) = (k : Int) + 1 := wrap_i64 (by omega) (by omega)
    obtain ⟨x0, hx0⟩ : ∃ x0, l[0]? = some x0 := ⟨_, List.getElem?_eq_getElem (by omega)⟩
    have hs1 := short_p x (unhid hg x hxm)
    have hs0 := short_p x0 (unhid hg x0 (List.mem_of_getElem? hx0))
    have ok1 := short_ok (unhid hg x hxm)
    have ok0 := short_ok (unhid hg x0 (List.mem_of_getElem? hx0))
    generalize shortS x = c at *
    generalize shortS x0 = d at *
    have hri := refRight_p c (by have := ok1.l; unfold maxLen; omega) ok1.f
    have hch := Check_p c (by have := ok1.l; unfold maxLen; omega) ok1.f
    have hsa := cSame_p c d ok1.o ok0.o
    have hsb := refSame_p c d ok1.o ok0.o
    have hsc := cSame_p c c ok1.o ok1.o
    rw [decide_eq_true (rfl : c = c)] at hsc
    have hmi := fun nm => cMissing_p c (by have := ok1.l; unfold maxLen; omega) ok1.f nm
    have hmr := fun (h : cdOk c = true) nm => refMissing_p c (by have := ok1.l; unfold maxLen; omega) ok1.a (by have := cdOk_ep h; omega) nm
    have hms : ∀ nm, missS c nm = if cdOk c = false then [] else if fndS c.pend nm < 0 then [] else missR c nm := fun nm => rfl
    have hcl := ok1.l
    generalize decide (c = d) = D at *
    have hDD : (D != D) = false := by simp
    clear ok1 ok0 hxm
    have hxl : (0 : Int) < l.length := by omega
    obtain ⟨xe, xk, xt, xa, xs, xp⟩ := x
    obtain ⟨ye, yk, yt, ya, ys, yp⟩ := x0
    simp only [Cd.av] at hs1 hs0 hri hch hsa hsb hsc hmi hmr
    have hav1 : Cd.av ⟨xe, xk, xt, xa, xs, xp⟩ = [.c (.int .u64 xe), .c (.int .u64 xk), .c (.int .i64 xt), .c (.int .i64 xa), .c (.int .i64 xs), .l 4 (xp.map Pd.av)] := rfl
    have hav2 : Cd.av ⟨ye, yk, yt, ya, ys, yp⟩ = [.c (.int .u64 ye), .c (.int .u64 yk), .c (.int .i64 yt), .c (.int .i64 ya), .c (.int .i64 ys), .l 4 (yp.map Pd.av)] := rfl
    replace hmi := Lib.hid hmi
    replace hmr := Lib.hid hmr
    replace hms := Lib.hid hms
    cases hok : cdOk c
    · rw [hok] at hch hri hms
      simp only [if_true, if_false, Bool.false_eq_true] at hch
      repeat' (first
    | refine AW_seq_kn fun K hK => ?_
    | refine AW_block ?_
    | (refine does_call rfl rfl ?_; simp only [push_cast, seval, *]; refine ACall.monoP (hs1 _) ?_; (try simp only [push_cast, seval, *]))
    | (refine does_call rfl rfl ?_; simp only [push_cast, seval, *]; refine ACall.monoP (hs0 _) ?_; (try simp only [push_cast, seval, *]))
    | (refine does_call rfl rfl ?_; simp only [push_cast, seval, *]; refine ACall.monoP (hri _) ?_; (try simp only [push_cast, seval, *]))
    | (refine does_call rfl rfl ?_; simp only [push_cast, seval, *]; refine ACall.monoP (hch _) ?_; (try simp only [push_cast, seval, *]))
    | (refine does_call rfl rfl ?_; simp only [push_cast, seval, *]; refine ACall.monoP (hsa _) ?_; (try simp only [push_cast, seval, *]))
    | (refine does_call rfl rfl ?_; simp only [push_cast, seval, *]; refine ACall.monoP (hsb _) ?_; (try simp only [push_cast, seval, *]))
    | (refine does_call rfl rfl ?_; simp only [push_cast, seval, *]; refine ACall.monoP (hsc _) ?_; (try simp only [push_cast, seval, *]))
    | (refine does_call rfl rfl ?_; simp only [push_cast, seval, *]; refine ACall.monoP (wakes22_p _) ?_; (try simp only [push_cast, seval, *]))
    | ((first
      | refine AW_region_draw (id := 7) E0 (fun f => [].contains f) dLZN0 dAZN0 mixed (by kernel_rfl) ?_
      | refine AW_region_draw (id := 10) E0 (fun f => [].contains f) dLZN1 dAZN1 mixed (by kernel_rfl) ?_
      | refine AW_region_draw (id := 27) E0 (fun f => [].contains f) dLZN2 dAZN2 mixed (by kernel_rfl) ?_
      | refine AW_region E0 ?_ | refine AW_ret ?_ | refine AW_exit ?_ | refine AW_skip ?_ | unfold retQ); try simp only [push_cast, seval, *])
    | ((first | (apply AW_cond; (case hc => (simp only [push_cast, seval]; rfl))) | (apply ER_guard; (case hb => (simp only [push_cast, seval]; rfl)))); all_goals ((intro hc; first | (exfalso; simp only [push_cast, seval, *] at hc; done) | (exact absurd hc (by decide)) | ((try first | rw [Bool.not_true] at hc | rw [Bool.not_false] at hc); first | (with_reducible replace hc := tTT hc); clear hc | (with_reducible replace hc := tFF hc); clear hc | (have hp := hc; try simp only [decide_eq_true_eq, decide_eq_false_iff_not, bA, bB, bC, bD, bE, bF, bG, bH] at hp))) <;> try simp only [push_cast, seval, *]))
    | (refine Kn.go hK ?_; clear hK K)
    | refine Kn.go (by assumption) ?_
    | (intro n hn; (try simp only [upd_none2, join_none_iff, ite_none, ne_eq] at hn); (try simp only [push_cast, seval, *]))
    | (intro hc)
    | (apply ER_blk; (case hp => rfl); (case hb => (simp only [push_cast, seval]; rfl)); (case hd => (simp only [push_cast, seval]; done)); (case h => (intro hc; simp only [push_cast, seval, *]; rfl)); simp only [push_cast, seval, *])
    | fail)
      · first
          | exact ⟨_, _, Weak.refl _ _, rfl⟩
          | exact ⟨trivial, by first | trivial | (first | trivial | (simp only [push_cast, seval, *]; done)), by first | trivial | (repeat' (first | exact Heap.le_refl _ | refine hle_upd2 ?_ _ _ | (refine Heap.le_new ?_ ?_; rotate_left 1; focus (first | assumption | (simp only [upd_none2, upd_get, ne_eq, push_cast, seval, *]; done) | (simp [upd_get, *]; done)))))⟩
      rename_i n6 h6 n7 h7
      have kc : (upd H n7 (.r 30 6 1 [[.c (.int .u64 c.epoch), .c (.int .u64 c.counter), .c (.int .i64 c.tasks), .c (.int .i64 c.attempt), .c (.int .i64 c.span), .l 4 (c.pend.map Pd.av)]])) n7 = some (.r 30 6 1 [[.c (.int .u64 c.epoch), .c (.int .u64 c.counter), .c (.int .i64 c.tasks), .c (.int .i64 c.attempt), .c (.int .i64 c.span), .l 4 (c.pend.map Pd.av)]]) := upd_same _ _ _
      refine AW_loopN m.length (fun _ => True) (fun j => [(0, .l 6 (l.map Cd.av)), (1, .l 1 (m.map ru)), (7, .p n7 6 0 0), (9, .c (.bool (cdOk c))), (18, .l 6 (l.map Cd.av)), (19, ci l.length), (20, ci k), (65, .l 1 (m.map ru)), (66, ci m.length), (67, ci j)]) (fun _ => upd H n7 (.r 30 6 1 [[.c (.int .u64 c.epoch), .c (.int .u64 c.counter), .c (.int .i64 c.tasks), .c (.int .i64 c.attempt), .c (.int .i64 c.span), .l 4 (c.pend.map Pd.av)]])) trivial ?_ ?_ ?_ ?_
      · (first | trivial | (simp only [push_cast, seval, *]; done))
      · (repeat' (first | exact Heap.le_refl _ | refine hle_upd2 ?_ _ _ | (refine Heap.le_new ?_ ?_; rotate_left 1; focus (first | assumption | (simp only [upd_none2, upd_get, ne_eq, push_cast, seval, *]; done) | (simp [upd_get, *]; done)))))
      · intro j hj _
        clear hs1 hs0 hri hch hsa hsb hsc hx hx0 hav1 hav2
        have hy := List.getElem?_eq_getElem (l := m) hj; generalize m[j] = y at hy; have hym := List.mem_of_getElem? hy; have hjl : (j : Int) < m.length := (by omega); have hjw : IntKind.i64.wrap ((j : Int) + 1) = (j : Int) + 1 := wrap_i64 (by omega) (by omega)
        clear hym
        by_cases hj6 : (j : Int) = 6
        · have hjl6 : (6 : Int) < m.length := by omega
          have hy6 : m[6]? = some y := by have e6 : j = 6 := by omega
                                          rw [← e6]; exact hy
          repeat' (first
    | refine AW_seq_kn fun K hK => ?_
    | refine AW_block ?_
    | (refine does_call rfl rfl ?_; simp only [push_cast, seval, *]; refine ACall.monoP (wakes22_p _) ?_; (try simp only [push_cast, seval, *]))
    | ((first
      | refine AW_region_draw (id := 7) E0 (fun f => [].contains f) dLZN0 dAZN0 mixed (by kernel_rfl) ?_
      | refine AW_region_draw (id := 10) E0 (fun f => [].contains f) dLZN1 dAZN1 mixed (by kernel_rfl) ?_
      | refine AW_region_draw (id := 27) E0 (fun f => [].contains f) dLZN2 dAZN2 mixed (by kernel_rfl) ?_
      | refine AW_region E0 ?_ | refine AW_ret ?_ | refine AW_exit ?_ | refine AW_skip ?_ | unfold retQ); try simp only [push_cast, seval, *])
    | ((first | (apply AW_cond; (case hc => (simp only [push_cast, seval]; rfl))) | (apply ER_guard; (case hb => (simp only [push_cast, seval]; rfl)))); all_goals ((intro hc; first | (exfalso; simp only [push_cast, seval, *] at hc; done) | (exact absurd hc (by decide)) | ((try first | rw [Bool.not_true] at hc | rw [Bool.not_false] at hc); first | (with_reducible replace hc := tTT hc); clear hc | (with_reducible replace hc := tFF hc); clear hc | (have hp := hc; try simp only [decide_eq_true_eq, decide_eq_false_iff_not, bA, bB, bC, bD, bE, bF, bG, bH] at hp))) <;> try simp only [push_cast, seval, *]))
    | (refine Kn.go hK ?_; clear hK K)
    | refine Kn.go (by assumption) ?_
    | (intro n hn; (try simp only [upd_none2, join_none_iff, ite_none, ne_eq] at hn); (try simp only [push_cast, seval, *]))
    | (intro hc)
    | (apply ER_blk; (case hp => rfl); (case hb => (simp only [push_cast, seval]; rfl)); (case hd => (simp only [push_cast, seval]; done)); (case h => (intro hc; simp only [push_cast, seval, *]; rfl)); simp only [push_cast, seval, *])
    | fail)
          exact ⟨trivial, by first | trivial | (first | trivial | (simp only [push_cast, seval, *]; done)), by first | trivial | (repeat' (first | exact Heap.le_refl _ | refine hle_upd2 ?_ _ _ | (refine Heap.le_new ?_ ?_; rotate_left 1; focus (first | assumption | (simp only [upd_none2, upd_get, ne_eq, push_cast, seval, *]; done) | (simp [upd_get, *]; done)))))⟩
        have key : ∀ nm, ∃ Z : List Nat, Z.length ≤ 16 ∧ Pure Try.prog 28 [.g [.c (.int .u64 c.epoch), .c (.int .u64 c.counter), .c (.int .i64 c.tasks), .c (.int .i64 c.attempt), .c (.int .i64 c.span), .l 4 (c.pend.map Pd.av)], .c (.int .u64 nm)] (.l 1 (Z.map ri)) ∧ (cdOk c = true → Pure Try.prog 27 [.g [.c (.int .u64 c.epoch), .c (.int .u64 c.counter), .c (.int .i64 c.tasks), .c (.int .i64 c.attempt), .c (.int .i64 c.span), .l 4 (c.pend.map Pd.av)], .c (.int .u64 nm)] (.l 1 (Z.map ri))) ∧ (cdOk c = false → Z = []) := fun nm => by
          have e1 : missS c nm = if cdOk c = false then [] else if fndS c.pend nm < 0 then [] else missR c nm := rfl
          refine ⟨missS c nm, ?_, unhid hmi nm, fun h => ?_, fun h => ?_⟩
          · exact missS_len c nm
          · rw [e1, h, if_neg (by decide)]; exact unhid hmr h nm
          · rw [e1, h, if_pos rfl]
        have hnum : ∃ nm : Int, ((j : Int) < c.pend.length ∧ ∃ p, c.pend[j]? = some p ∧ p.num = nm) ∨ (¬ (j : Int) < c.pend.length ∧ y = nm) := by
          by_cases h : (j : Int) < c.pend.length
          · obtain ⟨p, hp⟩ : ∃ p, c.pend[j]? = some p := ⟨_, List.getElem?_eq_getElem (by omega)⟩
            exact ⟨p.num, .inl ⟨h, p, hp, rfl⟩⟩
          · exact ⟨y, .inr ⟨h, rfl⟩⟩
        obtain ⟨nm, hnum⟩ := hnum
        obtain ⟨Z, hZ16, hz1, hz2, hz3⟩ := key nm
        clear key hmi hmr hms
        rcases hnum with ⟨hjp, p, hp, rfl⟩ | ⟨hjp, rfl⟩
        all_goals
          have hz4 := hz3 hok; subst hz4; clear hz3 hz2; have hz2 := hz1
          repeat' (first
    | refine AW_seq_kn fun K hK => ?_
    | refine AW_block ?_
    | (refine does_call rfl rfl ?_; simp only [push_cast, seval, *]; refine ACall.monoP (hz1 _) ?_; (try simp only [push_cast, seval, *]))
    | (refine does_call rfl rfl ?_; simp only [push_cast, seval, *]; refine ACall.monoP (hz2 _) ?_; (try simp only [push_cast, seval, *]))
    | (refine does_call rfl rfl ?_; simp only [push_cast, seval, *]; refine ACall.monoP (wakes22_p _) ?_; (try simp only [push_cast, seval, *]))
    | ((first
      | refine AW_region_draw (id := 7) E0 (fun f => [].contains f) dLZN0 dAZN0 mixed (by kernel_rfl) ?_
      | refine AW_region_draw (id := 10) E0 (fun f => [].contains f) dLZN1 dAZN1 mixed (by kernel_rfl) ?_
      | refine AW_region_draw (id := 27) E0 (fun f => [].contains f) dLZN2 dAZN2 mixed (by kernel_rfl) ?_
      | refine AW_region E0 ?_ | refine AW_ret ?_ | refine AW_exit ?_ | refine AW_skip ?_ | unfold retQ); try simp only [push_cast, seval, *])
    | ((first | (apply AW_cond; (case hc => (simp only [push_cast, seval]; rfl))) | (apply ER_guard; (case hb => (simp only [push_cast, seval]; rfl)))); all_goals ((intro hc; first | (exfalso; simp only [push_cast, seval, *] at hc; done) | (exact absurd hc (by decide)) | ((try first | rw [Bool.not_true] at hc | rw [Bool.not_false] at hc); first | (with_reducible replace hc := tTT hc); clear hc | (with_reducible replace hc := tFF hc); clear hc | (have hp := hc; try simp only [decide_eq_true_eq, decide_eq_false_iff_not, bA, bB, bC, bD, bE, bF, bG, bH] at hp))) <;> try simp only [push_cast, seval, *]))
    | (refine Kn.go hK ?_; clear hK K)
    | refine Kn.go (by assumption) ?_
    | (intro n hn; (try simp only [upd_none2, join_none_iff, ite_none, ne_eq] at hn); (try simp only [push_cast, seval, *]))
    | (intro hc)
    | (apply ER_blk; (case hp => rfl); (case hb => (simp only [push_cast, seval]; rfl)); (case hd => (simp only [push_cast, seval]; done)); (case h => (intro hc; simp only [push_cast, seval, *]; rfl)); simp only [push_cast, seval, *])
    | fail)
          refine AW_loopN 0 (fun _ => True) (fun q => [(0, .l 6 (l.map Cd.av)), (1, .l 1 (m.map ru)), (7, .p n7 6 0 0), (9, .c (.bool (cdOk c))), (13, .c (.slice none 0 0)), (14, .l 1 (([] : List Nat).map ri)), (18, .l 6 (l.map Cd.av)), (19, ci l.length), (20, ci k), (65, .l 1 (m.map ru)), (66, ci m.length), (67, ci j), (98, ci 0), (99, ci q)]) (fun _ => upd H n7 (.r 30 6 1 [[.c (.int .u64 c.epoch), .c (.int .u64 c.counter), .c (.int .i64 c.tasks), .c (.int .i64 c.attempt), .c (.int .i64 c.span), .l 4 (c.pend.map Pd.av)]])) trivial ?_ ?_ ?_ ?_
          · (first | trivial | (simp only [push_cast, seval, *]; done))
          · (repeat' (first | exact Heap.le_refl _ | refine hle_upd2 ?_ _ _ | (refine Heap.le_new ?_ ?_; rotate_left 1; focus (first | assumption | (simp only [upd_none2, upd_get, ne_eq, push_cast, seval, *]; done) | (simp [upd_get, *]; done)))))
          · intro q hq _
            simp at hq
          · intro _
            repeat' (first
    | refine AW_seq_kn fun K hK => ?_
    | refine AW_block ?_
    | (refine does_call rfl rfl ?_; simp only [push_cast, seval, *]; refine ACall.monoP (wakes22_p _) ?_; (try simp only [push_cast, seval, *]))
    | ((first
      | refine AW_region_draw (id := 7) E0 (fun f => [].contains f) dLZN0 dAZN0 mixed (by kernel_rfl) ?_
      | refine AW_region_draw (id := 10) E0 (fun f => [].contains f) dLZN1 dAZN1 mixed (by kernel_rfl) ?_
      | refine AW_region_draw (id := 27) E0 (fun f => [].contains f) dLZN2 dAZN2 mixed (by kernel_rfl) ?_
      | refine AW_region E0 ?_ | refine AW_ret ?_ | refine AW_exit ?_ | refine AW_skip ?_ | unfold retQ); try simp only [push_cast, seval, *])
    | ((first | (apply AW_cond; (case hc => (simp only [push_cast, seval]; rfl))) | (apply ER_guard; (case hb => (simp only [push_cast, seval]; rfl)))); all_goals ((intro hc; first | (exfalso; simp only [push_cast, seval, *] at hc; done) | (exact absurd hc (by decide)) | ((try first | rw [Bool.not_true] at hc | rw [Bool.not_false] at hc); first | (with_reducible replace hc := tTT hc); clear hc | (with_reducible replace hc := tFF hc); clear hc | (have hp := hc; try simp only [decide_eq_true_eq, decide_eq_false_iff_not, bA, bB, bC, bD, bE, bF, bG, bH] at hp))) <;> try simp only [push_cast, seval, *]))
    | (refine Kn.go hK ?_; clear hK K)
    | refine Kn.go (by assumption) ?_
    | (intro n hn; (try simp only [upd_none2, join_none_iff, ite_none, ne_eq] at hn); (try simp only [push_cast, seval, *]))
    | (intro hc)
    | (apply ER_blk; (case hp => rfl); (case hb => (simp only [push_cast, seval]; rfl)); (case hd => (simp only [push_cast, seval]; done)); (case h => (intro hc; simp only [push_cast, seval, *]; rfl)); simp only [push_cast, seval, *])
    | fail)
            exact ⟨trivial, by first | trivial | (first | trivial | (simp only [push_cast, seval, *]; done)), by first | trivial | (repeat' (first | exact Heap.le_refl _ | refine hle_upd2 ?_ _ _ | (refine Heap.le_new ?_ ?_; rotate_left 1; focus (first | assumption | (simp only [upd_none2, upd_get, ne_eq, push_cast, seval, *]; done) | (simp [upd_get, *]; done)))))⟩
      · intro _
        repeat' (first
    | refine AW_seq_kn fun K hK => ?_
    | refine AW_block ?_
    | (refine does_call rfl rfl ?_; simp only [push_cast, seval, *]; refine ACall.monoP (wakes22_p _) ?_; (try simp only [push_cast, seval, *]))
    | ((first
      | refine AW_region_draw (id := 7) E0 (fun f => [].contains f) dLZN0 dAZN0 mixed (by kernel_rfl) ?_
      | refine AW_region_draw (id := 10) E0 (fun f => [].contains f) dLZN1 dAZN1 mixed (by kernel_rfl) ?_
      | refine AW_region_draw (id := 27) E0 (fun f => [].contains f) dLZN2 dAZN2 mixed (by kernel_rfl) ?_
      | refine AW_region E0 ?_ | refine AW_ret ?_ | refine AW_exit ?_ | refine AW_skip ?_ | unfold retQ); try simp only [push_cast, seval, *])
    | ((first | (apply AW_cond; (case hc => (simp only [push_cast, seval]; rfl))) | (apply ER_guard; (case hb => (simp only [push_cast, seval]; rfl)))); all_goals ((intro hc; first | (exfalso; simp only [push_cast, seval, *] at hc; done) | (exact absurd hc (by decide)) | ((try first | rw [Bool.not_true] at hc | rw [Bool.not_false] at hc); first | (with_reducible replace hc := tTT hc); clear hc | (with_reducible replace hc := tFF hc); clear hc | (have hp := hc; try simp only [decide_eq_true_eq, decide_eq_false_iff_not, bA, bB, bC, bD, bE, bF, bG, bH] at hp))) <;> try simp only [push_cast, seval, *]))
    | (refine Kn.go hK ?_; clear hK K)
    | refine Kn.go (by assumption) ?_
    | (intro n hn; (try simp only [upd_none2, join_none_iff, ite_none, ne_eq] at hn); (try simp only [push_cast, seval, *]))
    | (intro hc)
    | (apply ER_blk; (case hp => rfl); (case hb => (simp only [push_cast, seval]; rfl)); (case hd => (simp only [push_cast, seval]; done)); (case h => (intro hc; simp only [push_cast, seval, *]; rfl)); simp only [push_cast, seval, *])
    | fail)
        exact ⟨trivial, by first | trivial | (first | trivial | (simp only [push_cast, seval, *]; done)), by first | trivial | (repeat' (first | exact Heap.le_refl _ | refine hle_upd2 ?_ _ _ | (refine Heap.le_new ?_ ?_; rotate_left 1; focus (first | assumption | (simp only [upd_none2, upd_get, ne_eq, push_cast, seval, *]; done) | (simp [upd_get, *]; done)))))⟩
    · rw [hok] at hch hri hms
      simp only [if_true, if_false, Bool.false_eq_true] at hch
      repeat' (first
    | refine AW_seq_kn fun K hK => ?_
    | refine AW_block ?_
    | (refine does_call rfl rfl ?_; simp only [push_cast, seval, *]; refine ACall.monoP (hs1 _) ?_; (try simp only [push_cast, seval, *]))
    | (refine does_call rfl rfl ?_; simp only [push_cast, seval, *]; refine ACall.monoP (hs0 _) ?_; (try simp only [push_cast, seval, *]))
    | (refine does_call rfl rfl ?_; simp only [push_cast, seval, *]; refine ACall.monoP (hri _) ?_; (try simp only [push_cast, seval, *]))
    | (refine does_call rfl rfl ?_; simp only [push_cast, seval, *]; refine ACall.monoP (hch _) ?_; (try simp only [push_cast, seval, *]))
    | (refine does_call rfl rfl ?_; simp only [push_cast, seval, *]; refine ACall.monoP (hsa _) ?_; (try simp only [push_cast, seval, *]))
    | (refine does_call rfl rfl ?_; simp only [push_cast, seval, *]; refine ACall.monoP (hsb _) ?_; (try simp only [push_cast, seval, *]))
    | (refine does_call rfl rfl ?_; simp only [push_cast, seval, *]; refine ACall.monoP (hsc _) ?_; (try simp only [push_cast, seval, *]))
    | (refine does_call rfl rfl ?_; simp only [push_cast, seval, *]; refine ACall.monoP (wakes22_p _) ?_; (try simp only [push_cast, seval, *]))
    | ((first
      | refine AW_region_draw (id := 7) E0 (fun f => [].contains f) dLZN0 dAZN0 mixed (by kernel_rfl) ?_
      | refine AW_region_draw (id := 10) E0 (fun f => [].contains f) dLZN1 dAZN1 mixed (by kernel_rfl) ?_
      | refine AW_region_draw (id := 27) E0 (fun f => [].contains f) dLZN2 dAZN2 mixed (by kernel_rfl) ?_
      | refine AW_region E0 ?_ | refine AW_ret ?_ | refine AW_exit ?_ | refine AW_skip ?_ | unfold retQ); try simp only [push_cast, seval, *])
    | ((first | (apply AW_cond; (case hc => (simp only [push_cast, seval]; rfl))) | (apply ER_guard; (case hb => (simp only [push_cast, seval]; rfl)))); all_goals ((intro hc; first | (exfalso; simp only [push_cast, seval, *] at hc; done) | (exact absurd hc (by decide)) | ((try first | rw [Bool.not_true] at hc | rw [Bool.not_false] at hc); first | (with_reducible replace hc := tTT hc); clear hc | (with_reducible replace hc := tFF hc); clear hc | (have hp := hc; try simp only [decide_eq_true_eq, decide_eq_false_iff_not, bA, bB, bC, bD, bE, bF, bG, bH] at hp))) <;> try simp only [push_cast, seval, *]))
    | (refine Kn.go hK ?_; clear hK K)
    | refine Kn.go (by assumption) ?_
    | (intro n hn; (try simp only [upd_none2, join_none_iff, ite_none, ne_eq] at hn); (try simp only [push_cast, seval, *]))
    | (intro hc)
    | (apply ER_blk; (case hp => rfl); (case hb => (simp only [push_cast, seval]; rfl)); (case hd => (simp only [push_cast, seval]; done)); (case h => (intro hc; simp only [push_cast, seval, *]; rfl)); simp only [push_cast, seval, *])
    | fail)
      · first
          | exact ⟨_, _, Weak.refl _ _, rfl⟩
          | exact ⟨trivial, by first | trivial | (first | trivial | (simp only [push_cast, seval, *]; done)), by first | trivial | (repeat' (first | exact Heap.le_refl _ | refine hle_upd2 ?_ _ _ | (refine Heap.le_new ?_ ?_; rotate_left 1; focus (first | assumption | (simp only [upd_none2, upd_get, ne_eq, push_cast, seval, *]; done) | (simp [upd_get, *]; done)))))⟩
      rename_i n6 h6 n7 h7
      have kc : (upd H n7 (.r 30 6 1 [[.c (.int .u64 c.epoch), .c (.int .u64 c.counter), .c (.int .i64 c.tasks), .c (.int .i64 c.attempt), .c (.int .i64 c.span), .l 4 (c.pend.map Pd.av)]])) n7 = some (.r 30 6 1 [[.c (.int .u64 c.epoch), .c (.int .u64 c.counter), .c (.int .i64 c.tasks), .c (.int .i64 c.attempt), .c (.int .i64 c.span), .l 4 (c.pend.map Pd.av)]]) := upd_same _ _ _
      refine AW_loopN m.length (fun _ => True) (fun j => [(0, .l 6 (l.map Cd.av)), (1, .l 1 (m.map ru)), (7, .p n7 6 0 0), (9, .c (.bool (cdOk c))), (18, .l 6 (l.map Cd.av)), (19, ci l.length), (20, ci k), (65, .l 1 (m.map ru)), (66, ci m.length), (67, ci j)]) (fun _ => upd H n7 (.r 30 6 1 [[.c (.int .u64 c.epoch), .c (.int .u64 c.counter), .c (.int .i64 c.tasks), .c (.int .i64 c.attempt), .c (.int .i64 c.span), .l 4 (c.pend.map Pd.av)]])) trivial ?_ ?_ ?_ ?_
      · (first | trivial | (simp only [push_cast, seval, *]; done))
      · (repeat' (first | exact Heap.le_refl _ | refine hle_upd2 ?_ _ _ | (refine Heap.le_new ?_ ?_; rotate_left 1; focus (first | assumption | (simp only [upd_none2, upd_get, ne_eq, push_cast, seval, *]; done) | (simp [upd_get, *]; done)))))
      · intro j hj _
        clear hs1 hs0 hri hch hsa hsb hsc hx hx0 hav1 hav2
        have hy := List.getElem?_eq_getElem (l := m) hj; generalize m[j] = y at hy; have hym := List.mem_of_getElem? hy; have hjl : (j : Int) < m.length := (by omega); have hjw : IntKind.i64.wrap ((j : Int) + 1) = (j : Int) + 1 := wrap_i64 (by omega) (by omega)
        clear hym
        by_cases hj6 : (j : Int) = 6
        · have hjl6 : (6 : Int) < m.length := by omega
          have hy6 : m[6]? = some y := by have e6 : j = 6 := by omega
                                          rw [← e6]; exact hy
          repeat' (first
    | refine AW_seq_kn fun K hK => ?_
    | refine AW_block ?_
    | (refine does_call rfl rfl ?_; simp only [push_cast, seval, *]; refine ACall.monoP (wakes22_p _) ?_; (try simp only [push_cast, seval, *]))
    | ((first
      | refine AW_region_draw (id := 7) E0 (fun f => [].contains f) dLZN0 dAZN0 mixed (by kernel_rfl) ?_
      | refine AW_region_draw (id := 10) E0 (fun f => [].contains f) dLZN1 dAZN1 mixed (by kernel_rfl) ?_
      | refine AW_region_draw (id := 27) E0 (fun f => [].contains f) dLZN2 dAZN2 mixed (by kernel_rfl) ?_
      | refine AW_region E0 ?_ | refine AW_ret ?_ | refine AW_exit ?_ | refine AW_skip ?_ | unfold retQ); try simp only [push_cast, seval, *])
    | ((first | (apply AW_cond; (case hc => (simp only [push_cast, seval]; rfl))) | (apply ER_guard; (case hb => (simp only [push_cast, seval]; rfl)))); all_goals ((intro hc; first | (exfalso; simp only [push_cast, seval, *] at hc; done) | (exact absurd hc (by decide)) | ((try first | rw [Bool.not_true] at hc | rw [Bool.not_false] at hc); first | (with_reducible replace hc := tTT hc); clear hc | (with_reducible replace hc := tFF hc); clear hc | (have hp := hc; try simp only [decide_eq_true_eq, decide_eq_false_iff_not, bA, bB, bC, bD, bE, bF, bG, bH] at hp))) <;> try simp only [push_cast, seval, *]))
    | (refine Kn.go hK ?_; clear hK K)
    | refine Kn.go (by assumption) ?_
    | (intro n hn; (try simp only [upd_none2, join_none_iff, ite_none, ne_eq] at hn); (try simp only [push_cast, seval, *]))
    | (intro hc)
    | (apply ER_blk; (case hp => rfl); (case hb => (simp only [push_cast, seval]; rfl)); (case hd => (simp only [push_cast, seval]; done)); (case h => (intro hc; simp only [push_cast, seval, *]; rfl)); simp only [push_cast, seval, *])
    | fail)
          exact ⟨trivial, by first | trivial | (first | trivial | (simp only [push_cast, seval, *]; done)), by first | trivial | (repeat' (first | exact Heap.le_refl _ | refine hle_upd2 ?_ _ _ | (refine Heap.le_new ?_ ?_; rotate_left 1; focus (first | assumption | (simp only [upd_none2, upd_get, ne_eq, push_cast, seval, *]; done) | (simp [upd_get, *]; done)))))⟩
        have key : ∀ nm, ∃ Z : List Nat, Z.length ≤ 16 ∧ Pure Try.prog 28 [.g [.c (.int .u64 c.epoch), .c (.int .u64 c.counter), .c (.int .i64 c.tasks), .c (.int .i64 c.attempt), .c (.int .i64 c.span), .l 4 (c.pend.map Pd.av)], .c (.int .u64 nm)] (.l 1 (Z.map ri)) ∧ (cdOk c = true → Pure Try.prog 27 [.g [.c (.int .u64 c.epoch), .c (.int .u64 c.counter), .c (.int .i64 c.tasks), .c (.int .i64 c.attempt), .c (.int .i64 c.span), .l 4 (c.pend.map Pd.av)], .c (.int .u64 nm)] (.l 1 (Z.map ri))) ∧ (cdOk c = false → Z = []) := fun nm => by
          have e1 : missS c nm = if cdOk c = false then [] else if fndS c.pend nm < 0 then [] else missR c nm := rfl
          refine ⟨missS c nm, ?_, unhid hmi nm, fun h => ?_, fun h => ?_⟩
          · exact missS_len c nm
          · rw [e1, h, if_neg (by decide)]; exact unhid hmr h nm
          · rw [e1, h, if_pos rfl]
        have hnum : ∃ nm : Int, ((j : Int) < c.pend.length ∧ ∃ p, c.pend[j]? = some p ∧ p.num = nm) ∨ (¬ (j : Int) < c.pend.length ∧ y = nm) := by
          by_cases h : (j : Int) < c.pend.length
          · obtain ⟨p, hp⟩ : ∃ p, c.pend[j]? = some p := ⟨_, List.getElem?_eq_getElem (by omega)⟩
            exact ⟨p.num, .inl ⟨h, p, hp, rfl⟩⟩
          · exact ⟨y, .inr ⟨h, rfl⟩⟩
        obtain ⟨nm, hnum⟩ := hnum
        obtain ⟨Z, hZ16, hz1, hz2, hz3⟩ := key nm
        clear key hmi hmr hms
        rcases hnum with ⟨hjp, p, hp, rfl⟩ | ⟨hjp, rfl⟩
        all_goals
          replace hz2 := hz2 hok; clear hz3
          repeat' (first
    | refine AW_seq_kn fun K hK => ?_
    | refine AW_block ?_
    | (refine does_call rfl rfl ?_; simp only [push_cast, seval, *]; refine ACall.monoP (hz1 _) ?_; (try simp only [push_cast, seval, *]))
    | (refine does_call rfl rfl ?_; simp only [push_cast, seval, *]; refine ACall.monoP (hz2 _) ?_; (try simp only [push_cast, seval, *]))
    | (refine does_call rfl rfl ?_; simp only [push_cast, seval, *]; refine ACall.monoP (wakes22_p _) ?_; (try simp only [push_cast, seval, *]))
    | ((first
      | refine AW_region_draw (id := 7) E0 (fun f => [].contains f) dLZN0 dAZN0 mixed (by kernel_rfl) ?_
      | refine AW_region_draw (id := 10) E0 (fun f => [].contains f) dLZN1 dAZN1 mixed (by kernel_rfl) ?_
      | refine AW_region_draw (id := 27) E0 (fun f => [].contains f) dLZN2 dAZN2 mixed (by kernel_rfl) ?_
      | refine AW_region E0 ?_ | refine AW_ret ?_ | refine AW_exit ?_ | refine AW_skip ?_ | unfold retQ); try simp only [push_cast, seval, *])
    | ((first | (apply AW_cond; (case hc => (simp only [push_cast, seval]; rfl))) | (apply ER_guard; (case hb => (simp only [push_cast, seval]; rfl)))); all_goals ((intro hc; first | (exfalso; simp only [push_cast, seval, *] at hc; done) | (exact absurd hc (by decide)) | ((try first | rw [Bool.not_true] at hc | rw [Bool.not_false] at hc); first | (with_reducible replace hc := tTT hc); clear hc | (with_reducible replace hc := tFF hc); clear hc | (have hp := hc; try simp only [decide_eq_true_eq, decide_eq_false_iff_not, bA, bB, bC, bD, bE, bF, bG, bH] at hp))) <;> try simp only [push_cast, seval, *]))
    | (refine Kn.go hK ?_; clear hK K)
    | refine Kn.go (by assumption) ?_
    | (intro n hn; (try simp only [upd_none2, join_none_iff, ite_none, ne_eq] at hn); (try simp only [push_cast, seval, *]))
    | (intro hc)
    | (apply ER_blk; (case hp => rfl); (case hb => (simp only [push_cast, seval]; rfl)); (case hd => (simp only [push_cast, seval]; done)); (case h => (intro hc; simp only [push_cast, seval, *]; rfl)); simp only [push_cast, seval, *])
    | fail)
          refine AW_loopN Z.length (fun _ => True) (fun q => [(0, .l 6 (l.map Cd.av)), (1, .l 1 (m.map ru)), (7, .p n7 6 0 0), (9, .c (.bool (cdOk c))), (13, .l 1 (Z.map ri)), (14, .l 1 (Z.map ri)), (18, .l 6 (l.map Cd.av)), (19, ci l.length), (20, ci k), (65, .l 1 (m.map ru)), (66, ci m.length), (67, ci j), (98, ci Z.length), (99, ci q)]) (fun _ => upd H n7 (.r 30 6 1 [[.c (.int .u64 c.epoch), .c (.int .u64 c.counter), .c (.int .i64 c.tasks), .c (.int .i64 c.attempt), .c (.int .i64 c.span), .l 4 (c.pend.map Pd.av)]])) trivial ?_ ?_ ?_ ?_
          · (first | trivial | (simp only [push_cast, seval, *]; done))
          · (repeat' (first | exact Heap.le_refl _ | refine hle_upd2 ?_ _ _ | (refine Heap.le_new ?_ ?_; rotate_left 1; focus (first | assumption | (simp only [upd_none2, upd_get, ne_eq, push_cast, seval, *]; done) | (simp [upd_get, *]; done)))))
          · intro q hq _
            have hz := List.getElem?_eq_getElem (l := Z) hq; generalize Z[q] = z at hz; have hzm := List.mem_of_getElem? hz; have hql : (q : Int) < Z.length := (by omega); have hqw : IntKind.i64.wrap ((q : Int) + 1) = (q : Int) + 1 := wrap_i64 (by omega) (by omega)
            clear hzm
            have hrz : ri z = [.c (.int .i64 (z : Int))] := rfl
            repeat' (first
    | refine AW_seq_kn fun K hK => ?_
    | refine AW_block ?_
    | (refine does_call rfl rfl ?_; simp only [push_cast, seval, *]; refine ACall.monoP (wakes22_p _) ?_; (try simp only [push_cast, seval, *]))
    | ((first
      | refine AW_region_draw (id := 7) E0 (fun f => [].contains f) dLZN0 dAZN0 mixed (by kernel_rfl) ?_
      | refine AW_region_draw (id := 10) E0 (fun f => [].contains f) dLZN1 dAZN1 mixed (by kernel_rfl) ?_
      | refine AW_region_draw (id := 27) E0 (fun f => [].contains f) dLZN2 dAZN2 mixed (by kernel_rfl) ?_
      | refine AW_region E0 ?_ | refine AW_ret ?_ | refine AW_exit ?_ | refine AW_skip ?_ | unfold retQ); try simp only [push_cast, seval, *])
    | ((first | (apply AW_cond; (case hc => (simp only [push_cast, seval]; rfl))) | (apply ER_guard; (case hb => (simp only [push_cast, seval]; rfl)))); all_goals ((intro hc; first | (exfalso; simp only [push_cast, seval, *] at hc; done) | (exact absurd hc (by decide)) | ((try first | rw [Bool.not_true] at hc | rw [Bool.not_false] at hc); first | (with_reducible replace hc := tTT hc); clear hc | (with_reducible replace hc := tFF hc); clear hc | (have hp := hc; try simp only [decide_eq_true_eq, decide_eq_false_iff_not, bA, bB, bC, bD, bE, bF, bG, bH] at hp))) <;> try simp only [push_cast, seval, *]))
    | (refine Kn.go hK ?_; clear hK K)
    | refine Kn.go (by assumption) ?_
    | (intro n hn; (try simp only [upd_none2, join_none_iff, ite_none, ne_eq] at hn); (try simp only [push_cast, seval, *]))
    | (intro hc)
    | (apply ER_blk; (case hp => rfl); (case hb => (simp only [push_cast, seval]; rfl)); (case hd => (simp only [push_cast, seval]; done)); (case h => (intro hc; simp only [push_cast, seval, *]; rfl)); simp only [push_cast, seval, *])
    | fail)
            exact ⟨trivial, by first | trivial | (first | trivial | (simp only [push_cast, seval, *]; done)), by first | trivial | (repeat' (first | exact Heap.le_refl _ | refine hle_upd2 ?_ _ _ | (refine Heap.le_new ?_ ?_; rotate_left 1; focus (first | assumption | (simp only [upd_none2, upd_get, ne_eq, push_cast, seval, *]; done) | (simp [upd_get, *]; done)))))⟩
          · intro _
            repeat' (first
    | refine AW_seq_kn fun K hK => ?_
    | refine AW_block ?_
    | (refine does_call rfl rfl ?_; simp only [push_cast, seval, *]; refine ACall.monoP (wakes22_p _) ?_; (try simp only [push_cast, seval, *]))
    | ((first
      | refine AW_region_draw (id := 7) E0 (fun f => [].contains f) dLZN0 dAZN0 mixed (by kernel_rfl) ?_
      | refine AW_region_draw (id := 10) E0 (fun f => [].contains f) dLZN1 dAZN1 mixed (by kernel_rfl) ?_
      | refine AW_region_draw (id := 27) E0 (fun f => [].contains f) dLZN2 dAZN2 mixed (by kernel_rfl) ?_
      | refine AW_region E0 ?_ | refine AW_ret ?_ | refine AW_exit ?_ | refine AW_skip ?_ | unfold retQ); try simp only [push_cast, seval, *])
    | ((first | (apply AW_cond; (case hc => (simp only [push_cast, seval]; rfl))) | (apply ER_guard; (case hb => (simp only [push_cast, seval]; rfl)))); all_goals ((intro hc; first | (exfalso; simp only [push_cast, seval, *] at hc; done) | (exact absurd hc (by decide)) | ((try first | rw [Bool.not_true] at hc | rw [Bool.not_false] at hc); first | (with_reducible replace hc := tTT hc); clear hc | (with_reducible replace hc := tFF hc); clear hc | (have hp := hc; try simp only [decide_eq_true_eq, decide_eq_false_iff_not, bA, bB, bC, bD, bE, bF, bG, bH] at hp))) <;> try simp only [push_cast, seval, *]))
    | (refine Kn.go hK ?_; clear hK K)
    | refine Kn.go (by assumption) ?_
    | (intro n hn; (try simp only [upd_none2, join_none_iff, ite_none, ne_eq] at hn); (try simp only [push_cast, seval, *]))
    | (intro hc)
    | (apply ER_blk; (case hp => rfl); (case hb => (simp only [push_cast, seval]; rfl)); (case hd => (simp only [push_cast, seval]; done)); (case h => (intro hc; simp only [push_cast, seval, *]; rfl)); simp only [push_cast, seval, *])
    | fail)
            exact ⟨trivial, by first | trivial | (first | trivial | (simp only [push_cast, seval, *]; done)), by first | trivial | (repeat' (first | exact Heap.le_refl _ | refine hle_upd2 ?_ _ _ | (refine Heap.le_new ?_ ?_; rotate_left 1; focus (first | assumption | (simp only [upd_none2, upd_get, ne_eq, push_cast, seval, *]; done) | (simp [upd_get, *]; done)))))⟩
      · intro _
        repeat' (first
    | refine AW_seq_kn fun K hK => ?_
    | refine AW_block ?_
    | (refine does_call rfl rfl ?_; simp only [push_cast, seval, *]; refine ACall.monoP (wakes22_p _) ?_; (try simp only [push_cast, seval, *]))
    | ((first
      | refine AW_region_draw (id := 7) E0 (fun f => [].contains f) dLZN0 dAZN0 mixed (by kernel_rfl) ?_
      | refine AW_region_draw (id := 10) E0 (fun f => [].contains f) dLZN1 dAZN1 mixed (by kernel_rfl) ?_
      | refine AW_region_draw (id := 27) E0 (fun f => [].contains f) dLZN2 dAZN2 mixed (by kernel_rfl) ?_
      | refine AW_region E0 ?_ | refine AW_ret ?_ | refine AW_exit ?_ | refine AW_skip ?_ | unfold retQ); try simp only [push_cast, seval, *])
    | ((first | (apply AW_cond; (case hc => (simp only [push_cast, seval]; rfl))) | (apply ER_guard; (case hb => (simp only [push_cast, seval]; rfl)))); all_goals ((intro hc; first | (exfalso; simp only [push_cast, seval, *] at hc; done) | (exact absurd hc (by decide)) | ((try first | rw [Bool.not_true] at hc | rw [Bool.not_false] at hc); first | (with_reducible replace hc := tTT hc); clear hc | (with_reducible replace hc := tFF hc); clear hc | (have hp := hc; try simp only [decide_eq_true_eq, decide_eq_false_iff_not, bA, bB, bC, bD, bE, bF, bG, bH] at hp))) <;> try simp only [push_cast, seval, *]))
    | (refine Kn.go hK ?_; clear hK K)
    | refine Kn.go (by assumption) ?_
    | (intro n hn; (try simp only [upd_none2, join_none_iff, ite_none, ne_eq] at hn); (try simp only [push_cast, seval, *]))
    | (intro hc)
    | (apply ER_blk; (case hp => rfl); (case hb => (simp only [push_cast, seval]; rfl)); (case hd => (simp only [push_cast, seval]; done)); (case h => (intro hc; simp only [push_cast, seval, *]; rfl)); simp only [push_cast, seval, *])
    | fail)
        exact ⟨trivial, by first | trivial | (first | trivial | (simp only [push_cast, seval, *]; done)), by first | trivial | (repeat' (first | exact Heap.le_refl _ | refine hle_upd2 ?_ _ _ | (refine Heap.le_new ?_ ?_; rotate_left 1; focus (first | assumption | (simp only [upd_none2, upd_get, ne_eq, push_cast, seval, *]; done) | (simp [upd_get, *]; done)))))⟩
  · intro _
    repeat' (first
    | refine AW_seq_kn fun K hK => ?_
    | refine AW_block ?_
    | (refine does_call rfl rfl ?_; simp only [push_cast, seval, *]; refine ACall.monoP (wakes22_p _) ?_; (try simp only [push_cast, seval, *]))
    | ((first
      | refine AW_region_draw (id := 7) E0 (fun f => [].contains f) dLZN0 dAZN0 mixed (by kernel_rfl) ?_
      | refine AW_region_draw (id := 10) E0 (fun f => [].contains f) dLZN1 dAZN1 mixed (by kernel_rfl) ?_
      | refine AW_region_draw (id := 27) E0 (fun f => [].contains f) dLZN2 dAZN2 mixed (by kernel_rfl) ?_
      | refine AW_region E0 ?_ | refine AW_ret ?_ | refine AW_exit ?_ | refine AW_skip ?_ | unfold retQ); try simp only [push_cast, seval, *])
    | ((first | (apply AW_cond; (case hc => (simp only [push_cast, seval]; rfl))) | (apply ER_guard; (case hb => (simp only [push_cast, seval]; rfl)))); all_goals ((intro hc; first | (exfalso; simp only [push_cast, seval, *] at hc; done) | (exact absurd hc (by decide)) | ((try first | rw [Bool.not_true] at hc | rw [Bool.not_false] at hc); first | (with_reducible replace hc := tTT hc); clear hc | (with_reducible replace hc := tFF hc); clear hc | (have hp := hc; try simp only [decide_eq_true_eq, decide_eq_false_iff_not, bA, bB, bC, bD, bE, bF, bG, bH] at hp))) <;> try simp only [push_cast, seval, *]))
    | (refine Kn.go hK ?_; clear hK K)
    | refine Kn.go (by assumption) ?_
    | (intro n hn; (try simp only [upd_none2, join_none_iff, ite_none, ne_eq] at hn); (try simp only [push_cast, seval, *]))
    | (intro hc)
    | (apply ER_blk; (case hp => rfl); (case hb => (simp only [push_cast, seval]; rfl)); (case hd => (simp only [push_cast, seval]; done)); (case h => (intro hc; simp only [push_cast, seval, *]; rfl)); simp only [push_cast, seval, *])
    | fail)
    exact ⟨_, _, Weak.refl _ _, rfl⟩
end Go.Proofs.Ytlbdpnlmdcajbaa
