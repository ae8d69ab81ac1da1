/- Acked. -/
import Derived.Test.YtlbdpnlmdcajbaaN
namespace Go.Proofs.Ytlbdpnlmdcajbaa
open Go.RowKit
open Nat renaming reduceEqDiff → nA, reduceLT → nB, reduceLeDiff → nC, reduceAdd → nD, reduceMul → nE, reduceSub → nF, reduceBEq → nG
open Int renaming reduceToNat → iA, reduceLT → iB, reduceLE → iC, reduceEq → iD
open Bool renaming and_eq_true → bA, or_eq_true → bB, or_eq_false_iff → bC, and_eq_false_iff → bD, not_eq_true' → bE, not_eq_false' → bF, not_true → bG, not_false → bH
set_option linter.all false
set_option maxHeartbeats 4000000
attribute [local irreducible] AW Does ACall tE tS tB tZ
def dLO0 : List En := [(0, false, []), (1, true, []), (2, false, []), (3, false, [1]), (4, false, []), (5, false, [])]
def dAO0 : List (List Nat) := [[], [], [], [0], [0, 1, 3], [0, 1, 2, 3, 4]]
attribute [push_cast] dLO0
set_option maxRecDepth 5000

def ackR (c : Cd) (nm at_ : Int) (a : Ak) : Cd × Bool × Int := if cdOk c = false then (zeroC, false, 320) else if ackE c nm at_ a = 0 then (ackC c nm a, ackAll c nm, 0) else (zeroC, false, ackE c nm at_ a)
theorem Acked_o (c : Cd) (hl : c.pend.length ≤ maxLen) (hfit : c.fits) (nm at_ : Int) (a : Ak) (hab : a.bytes.length ≤ maxLen) (G : Heap) :
    ACall Try.prog 32 [.g (Cd.av c), .c (.int .u64 nm), .c (.int .i64 at_), .g (Ak.av a)] G fun r H' => ∃ y, r = .t [.g ((ackR c nm at_ a).1.cl y), .c (.bool (ackR c nm at_ a).2.1), .c (.int .i64 (ackR c nm at_ a).2.2)] ∧ OwnP y (ackR c nm at_ a).1.pend H' G := by
  have hw : ∀ Gs n2 n3 n4 n6, Gs n2 = some (.r 25 1 1 [[.c (.int .u64 nm)]]) → Gs n3 = some (.r 3 1 1 [[.c (.int .i64 at_)]]) → Gs n4 = some (.r 47 2 1 [Ak.av a]) → Gs n6 = some (.r 4 1 1 [[.c (.bool false)]]) →
      ACall Try.prog 60 [.g (Cd.av c), .f (.func 62) [] [.p n2 1 0 0, .p n3 1 0 0, .p n4 2 0 0, .p n6 1 0 0]] Gs fun r H' => ∃ y G', r = .t [.g ((ackR c nm at_ a).1.cl y), .c (.int .i64 (ackR c nm at_ a).2.2)] ∧ OwnP y (ackR c nm at_ a).1.pend H' G' ∧ G' = upd Gs n6 (.r 4 1 1 [[.c (.bool (ackR c nm at_ a).2.1)]]) := fun Gs n2 n3 n4 n6 g2 g3 g4 g6 => by
    have h := with_all c hl hfit.2 62 [.p n2 1 0 0, .p n3 1 0 0, .p n4 2 0 0, .p n6 1 0 0] Gs (ackE c nm at_ a) (ackC c nm a) (fun G' => G' = upd Gs n6 (.r 4 1 1 [[.c (.bool (ackR c nm at_ a).2.1)]])) (fun hok => by simp only [ackR, hok, if_true]; exact (upd_self g6).symm) (fun hok x A nb hnb ho => by
      refine (acked1_a c hok nm at_ a hab x A nb Gs hnb n2 n3 n4 n6 g2 g3 g4 g6 ho).mono ?_
      rintro r A' ⟨rfl, h⟩
      refine ⟨rfl, ?_⟩
      simp only [ackR, hok, Bool.true_eq_false, if_false]
      rcases h with ⟨he, x', G', rfl, h1, h2⟩ | ⟨he, G', rfl, h1⟩
      · exact .inl ⟨he, x', _, by rw [if_pos he], h1, h2⟩
      · exact .inr ⟨he, G', by rw [if_neg he]; exact (upd_self g6).symm, h1⟩)
    have e1 : (wRes c (ackE c nm at_ a) (ackC c nm a)).1 = (ackR c nm at_ a).1 := by unfold wRes ackR; by_cases q1 : cdOk c = false <;> by_cases q2 : ackE c nm at_ a = 0 <;> simp [q1, q2]
    have e2 : (wRes c (ackE c nm at_ a) (ackC c nm a)).2 = (ackR c nm at_ a).2.2 := by unfold wRes ackR; by_cases q1 : cdOk c = false <;> by_cases q2 : ackE c nm at_ a = 0 <;> simp [q1, q2]
    rw [e1, e2] at h
    exact h
  generalize ackR c nm at_ a = R at *
  obtain ⟨R1, R2, R3⟩ := R
  obtain ⟨c0, c1, c2, c3, c4, l⟩ := c
  obtain ⟨task, bs⟩ := a
  simp only [Cd.av, Cd.cl, Ak.av] at hw ⊢
  clear hl hfit hab
  replace hw := Lib.hid hw
  refine ACall_of' Try.func32 rfl (Ent_of Try.func32 (by kernel_rfl) rfl) (by simp [Try.ntmps32]) ?_; simp only [Try.ntmps32, Try.results32]
  repeat' (first
    | refine AW_seq_kn fun K hK => ?_
    | refine AW_block ?_
    | ((first
      | refine AW_region_draw (id := 3) E0 (fun f => [].contains f) dLO0 dAO0 mixed (by kernel_rfl) ?_
      | refine AW_region E0 ?_ | refine AW_ret ?_ | refine AW_exit ?_ | refine AW_skip ?_ | unfold retQ); try simp only [push_cast, seval, *])
    | (apply AW_cond; (case hc => (simp only [push_cast, seval]; rfl)); all_goals (intro hc; first | (exfalso; simp only [push_cast, seval, *] at hc; done) | (exact absurd hc (by decide)) | ((try first | rw [Bool.not_true] at hc | rw [Bool.not_false] at hc); first | (with_reducible replace hc := tTT hc); clear hc | (with_reducible replace hc := tFF hc); clear hc | (have hp := hc; try simp only [decide_eq_true_eq, decide_eq_false_iff_not, bA, bB, bC, bD, bE, bF, bG, bH] at hp))))
    | (refine Kn.go hK ?_; clear hK K)
    | refine Kn.go (by assumption) ?_
    | (intro n hn; (try simp only [upd_none2, join_none_iff, ite_none, ne_eq] at hn); (try simp only [push_cast, seval, *]))
    | (intro hc)
    | fail)
  rename_i n1 h1 n2 h2 n3 h3 n4 h4 n5 h5
  generalize n = n6 at *
  obtain ⟨Gs, hGs⟩ : ∃ Gs : Heap, Gs = upd (upd (upd (upd (upd (upd G n1 (.r 30 6 1 [[.c (.int .u64 c0), .c (.int .u64 c1), .c (.int .i64 c2), .c (.int .i64 c3), .c (.int .i64 c4), .l 4 (l.map Pd.av)]])) n2 (.r 25 1 1 [[.c (.int .u64 nm)]])) n3 (.r 3 1 1 [[.c (.int .i64 at_)]])) n4 (.r 47 2 1 [[.c (.int .i64 task), .l 1 (bs.map by1)]])) n5 (.r 30 6 1 [zrow])) n6 (.r 4 1 1 [[.c (.bool false)]]) := ⟨_, rfl⟩
  have g2 : Gs n2 = some (.r 25 1 1 [[.c (.int .u64 nm)]]) := by rw [hGs]; simp only [push_cast, seval, upd_get, *]
  have g3 : Gs n3 = some (.r 3 1 1 [[.c (.int .i64 at_)]]) := by rw [hGs]; simp only [push_cast, seval, upd_get, *]
  have g4 : Gs n4 = some (.r 47 2 1 [[.c (.int .i64 task), .l 1 (bs.map by1)]]) := by rw [hGs]; simp only [push_cast, seval, upd_get, *]
  have g5 : Gs n5 = some (.r 30 6 1 [zrow]) := by rw [hGs]; simp only [push_cast, seval, upd_get, *]
  have g6 : Gs n6 = some (.r 4 1 1 [[.c (.bool false)]]) := by rw [hGs]; exact upd_same _ _ _
  have d56 : ¬ n5 = n6 := hn.1.2
  have d65 : ¬ n6 = n5 := hn.1.1
  have gn5 : G n5 = none := h5.2.2.2.2
  have gn6 : G n6 = none := hn.2.2.2.2.2
  have hle : Heap.le G Gs := by rw [hGs]; (repeat' (first | exact Heap.le_refl _ | refine hle_upd2 ?_ _ _ | (refine Heap.le_new ?_ ?_; rotate_left 1; focus (first | assumption | (simp only [upd_none2, upd_get, ne_eq, push_cast, seval, *]; done) | (simp [upd_get, *]; done)))))
  rw [← hGs]
  clear hGs h1 h2 h3 h4 h5 hn
  refine does_call rfl rfl ?_
  simp only [push_cast, seval, *]
  refine ACall.mono (unhid hw Gs n2 n3 n4 n6 g2 g3 g4 g6) ?_
  rintro _ H' ⟨y, _, rfl, ho, rfl⟩
  have k5 := (OwnP_loc y R1.pend).get ho (m := n5) (by rw [upd_ne d56]; exact g5)
  have k6 := (OwnP_loc y R1.pend).get ho (upd_same _ _ _)
  obtain ⟨H2, l1, l2, l3⟩ := (OwnP_loc y R1.pend).cutx ho (K := G) (le_skip hle gn6)
  have l4 := l3 n5 (by rw [upd_ne d56, g5]; simp) gn5
  have hycs := l2.cs
  have hyone := l2.one
  simp only [zrow] at k5
  have o4 := ne_old k5
  have o5 := ne_old k6
  clear hw ho g2 g3 g4 g5 g6 gn5 gn6 hle l3
  replace l1 := Lib.hid l1
  replace l2 := Lib.hid l2
  replace l4 := Lib.hid l4
  (try simp only [push_cast, seval, *])
  repeat' (first
    | refine AW_seq_kn fun K hK => ?_
    | refine AW_block ?_
    | ((first
      | refine AW_region_draw (id := 3) E0 (fun f => [].contains f) dLO0 dAO0 mixed (by kernel_rfl) ?_
      | refine AW_region E0 ?_ | refine AW_ret ?_ | refine AW_exit ?_ | refine AW_skip ?_ | unfold retQ); try simp only [push_cast, seval, *])
    | (apply AW_cond; (case hc => (simp only [push_cast, seval]; rfl)); all_goals (intro hc; first | (exfalso; simp only [push_cast, seval, *] at hc; done) | (exact absurd hc (by decide)) | ((try first | rw [Bool.not_true] at hc | rw [Bool.not_false] at hc); first | (with_reducible replace hc := tTT hc); clear hc | (with_reducible replace hc := tFF hc); clear hc | (have hp := hc; try simp only [decide_eq_true_eq, decide_eq_false_iff_not, bA, bB, bC, bD, bE, bF, bG, bH] at hp))))
    | (refine Kn.go hK ?_; clear hK K)
    | refine Kn.go (by assumption) ?_
    | (intro n hn; (try simp only [upd_none2, join_none_iff, ite_none, ne_eq] at hn); (try simp only [push_cast, seval, *]))
    | (intro hc)
    | fail)
  exact ⟨_, H2, Weak.less (by repeat' (first | exact unhid l1 | refine le_skip ?_ (unhid l4) | refine le_skip ?_ (le_no (unhid l1) hn))), y, rfl, unhid l2⟩
end Go.Proofs.Ytlbdpnlmdcajbaa
