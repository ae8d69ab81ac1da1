/- Restart. -/
import Derived.Test.YtlbdpnlmdcajbaaU
namespace Go.Proofs.Ytlbdpnlmdcajbaa
open Go.RowKit
open Nat renaming reduceEqDiff → nA, reduceLT → nB, reduceLeDiff → nC, reduceAdd → nD, reduceMul → nE, reduceSub → nF, reduceBEq → nG
open Int renaming reduceToNat → iA, reduceLT → iB, reduceLE → iC, reduceEq → iD
open Bool renaming and_eq_true → bA, or_eq_true → bB, or_eq_false_iff → bC, and_eq_false_iff → bD, not_eq_true' → bE, not_eq_false' → bF, not_true → bG, not_false → bH
set_option linter.all false
set_option maxHeartbeats 4000000
attribute [local irreducible] AW Does ACall tE tS tB tZ
def dLV0 : List En := [(0, false, []), (1, true, []), (2, false, []), (3, false, [1]), (4, false, []), (5, false, [])]
def dAV0 : List (List Nat) := [[], [], [], [0], [0, 1, 3], [0, 1, 2, 3, 4]]
attribute [push_cast] dLV0
set_option maxRecDepth 5000

def restR (c : Cd) (ts at_ : Int) : Cd × List Int × Int := if cdOk c = false then (zeroC, [], 320) else if restE c ts at_ = 0 then (restC c ts at_, c.pend.map Pd.num, 0) else (zeroC, [], restE c ts at_)
theorem Restart_o (c : Cd) (hl : c.pend.length ≤ maxLen) (hfit : c.fits) (ts at_ : Int) (G : Heap) :
    ACall Try.prog 40 [.g (Cd.av c), .c (.int .i64 ts), .c (.int .i64 at_)] G fun r H' => ∃ y g H1, r = .t [.g ((restR c ts at_).1.cl y), g, .c (.int .i64 (restR c ts at_).2.2)] ∧ OwnP y (restR c ts at_).1.pend H' H1 ∧ OwnL H1 g 25 1 ((restR c ts at_).2.1.map iu) G := by
  have hw : ∀ Gs n2 n3 n5, Gs n2 = some (.r 3 1 1 [[.c (.int .i64 ts)]]) → Gs n3 = some (.r 3 1 1 [[.c (.int .i64 at_)]]) → Gs n5 = some (gl (.c (.slice none 0 0))) → ¬ n2 = n5 → ¬ n3 = n5 →
      ACall Try.prog 60 [.g (Cd.av c), .f (.func 75) [] [.p n2 1 0 0, .p n3 1 0 0, .p n5 1 0 0]] Gs fun r H' => ∃ y G', r = .t [.g ((restR c ts at_).1.cl y), .c (.int .i64 (restR c ts at_).2.2)] ∧ OwnP y (restR c ts at_).1.pend H' G' ∧ ∃ g, OwnL G' g 25 1 ((restR c ts at_).2.1.map iu) (upd Gs n5 (gl g)) := fun Gs n2 n3 n5 g2 g3 g5 g25 g35 => by
    have hnil : ∃ g, OwnL Gs g 25 1 (([] : List Int).map iu) (upd Gs n5 (gl g)) := ⟨.c (.slice none 0 0), by rw [upd_self g5]; exact OwnL.nil _ _ _⟩
    have h := with_all c hl hfit.2 75 [.p n2 1 0 0, .p n3 1 0 0, .p n5 1 0 0] Gs (restE c ts at_) (restC c ts at_) (fun G' => ∃ g, OwnL G' g 25 1 ((restR c ts at_).2.1.map iu) (upd Gs n5 (gl g))) (fun hok => by simp only [restR, hok, if_true]; exact hnil) (fun hok x A nb hnb ho => by
      refine (rest1_a c hok ts at_ x A nb Gs hnb n2 n3 n5 g25 g35 g2 g3 g5 ho).mono ?_
      rintro r A' ⟨rfl, h⟩
      refine ⟨rfl, ?_⟩
      simp only [restR, hok, Bool.true_eq_false, if_false]
      rcases h with ⟨he, x', G', h0, h1, h2⟩ | ⟨he, G', rfl, h1⟩
      · exact .inl ⟨he, x', G', by rw [if_pos he]; simp only [← iu_map]; exact h0, h1, h2⟩
      · exact .inr ⟨he, G', by rw [if_neg he]; exact hnil, h1⟩)
    have e1 : (wRes c (restE c ts at_) (restC c ts at_)).1 = (restR c ts at_).1 := by unfold wRes restR; by_cases q1 : cdOk c = false <;> by_cases q2 : restE c ts at_ = 0 <;> simp [q1, q2]
    have e2 : (wRes c (restE c ts at_) (restC c ts at_)).2 = (restR c ts at_).2.2 := by unfold wRes restR; by_cases q1 : cdOk c = false <;> by_cases q2 : restE c ts at_ = 0 <;> simp [q1, q2]
    rw [e1, e2] at h
    exact h
  generalize restR c ts at_ = R at *
  obtain ⟨R1, R2, R3⟩ := R
  obtain ⟨c0, c1, c2, c3, c4, l⟩ := c
  simp only [Cd.av, Cd.cl] at hw ⊢
  clear hl hfit
  replace hw := Lib.hid hw
  refine ACall_of' Try.func40 rfl (Ent_of Try.func40 (by kernel_rfl) rfl) (by simp [Try.ntmps40]) ?_; simp only [Try.ntmps40, Try.results40]
  repeat' (first
    | refine AW_seq_kn fun K hK => ?_
    | refine AW_block ?_
    | ((first
      | refine AW_region_draw (id := 3) E0 (fun f => [].contains f) dLV0 dAV0 mixed (by kernel_rfl) ?_
      | refine AW_region E0 ?_ | refine AW_ret ?_ | refine AW_exit ?_ | refine AW_skip ?_ | unfold retQ); try simp only [push_cast, seval, *])
    | (apply AW_cond; (case hc => (simp only [push_cast, seval]; rfl)); all_goals (intro hc; first | (exfalso; simp only [push_cast, seval, *] at hc; done) | (exact absurd hc (by decide)) | ((try first | rw [Bool.not_true] at hc | rw [Bool.not_false] at hc); first | (with_reducible replace hc := tTT hc); clear hc | (with_reducible replace hc := tFF hc); clear hc | (have hp := hc; try simp only [decide_eq_true_eq, decide_eq_false_iff_not, bA, bB, bC, bD, bE, bF, bG, bH] at hp))))
    | (refine Kn.go hK ?_; clear hK K)
    | refine Kn.go (by assumption) ?_
    | (intro n hn; (try simp only [upd_none2, join_none_iff, ite_none, ne_eq] at hn); (try simp only [push_cast, seval, *]))
    | (intro hc)
    | fail)
  rename_i n1 h1 n2 h2 n3 h3 n4 h4
  generalize n = n5 at *
  obtain ⟨Gs, hGs⟩ : ∃ Gs : Heap, Gs = upd (upd (upd (upd (upd G n1 (.r 30 6 1 [[.c (.int .u64 c0), .c (.int .u64 c1), .c (.int .i64 c2), .c (.int .i64 c3), .c (.int .i64 c4), .l 4 (l.map Pd.av)]])) n2 (.r 3 1 1 [[.c (.int .i64 ts)]])) n3 (.r 3 1 1 [[.c (.int .i64 at_)]])) n4 (.r 30 6 1 [zrow])) n5 (gl (.c (.slice none 0 0))) := ⟨_, rfl⟩
  have g2 : Gs n2 = some (.r 3 1 1 [[.c (.int .i64 ts)]]) := by rw [hGs]; simp only [push_cast, seval, upd_get, *]
  have g3 : Gs n3 = some (.r 3 1 1 [[.c (.int .i64 at_)]]) := by rw [hGs]; simp only [push_cast, seval, upd_get, *]
  have g4 : Gs n4 = some (.r 30 6 1 [zrow]) := by rw [hGs]; simp only [push_cast, seval, upd_get, *]
  have g5 : Gs n5 = some (gl (.c (.slice none 0 0))) := by rw [hGs]; exact upd_same _ _ _
  have d25 : ¬ n2 = n5 := hn.2.2.1.2
  have d35 : ¬ n3 = n5 := hn.2.1.2
  have d45 : ¬ n4 = n5 := hn.1.2
  have d54 : ¬ n5 = n4 := hn.1.1
  have gn4 : G n4 = none := h4.2.2.2
  have gn5 : G n5 = none := hn.2.2.2.2
  have hle : Heap.le G Gs := by rw [hGs]; (repeat' (first | exact Heap.le_refl _ | refine hle_upd2 ?_ _ _ | (refine Heap.le_new ?_ ?_; rotate_left 1; focus (first | assumption | (simp only [upd_none2, upd_get, ne_eq, push_cast, seval, *]; done) | (simp [upd_get, *]; done)))))
  rw [← hGs]
  clear hGs h1 h2 h3 h4 hn
  refine does_call rfl rfl ?_
  simp only [push_cast, seval, *]
  refine ACall.mono (unhid hw Gs n2 n3 n5 g2 g3 g5 d25 d35) ?_
  rintro _ H' ⟨y, G', rfl, ho, g, hg⟩
  have k3 := (OwnP_loc y R1.pend).get ho (hg.get (m := n4) (by rw [upd_ne d45]; exact g4))
  have k4 := (OwnP_loc y R1.pend).get ho (hg.get (upd_same _ _ _))
  obtain ⟨H2, H3, l1, l2, l5, l3⟩ := two_fin ho hg hle gn5
  have l4 := l3 n4 (by rw [g4]; simp) gn4
  have hycs := l2.cs
  have hyone := l2.one
  have hgcs := l5.cs
  have hgone := l5.one
  simp only [zrow] at k3
  have o4 := ne_old k4
  have o5 := ne_old k3
  clear hw ho hg g2 g3 g4 g5 d25 d35 gn4 gn5 hle l3
  replace l1 := Lib.hid l1
  replace l2 := Lib.hid l2
  replace l4 := Lib.hid l4
  replace l5 := Lib.hid l5
  (try simp only [push_cast, seval, *])
  repeat' (first
    | refine AW_seq_kn fun K hK => ?_
    | refine AW_block ?_
    | ((first
      | refine AW_region_draw (id := 3) E0 (fun f => [].contains f) dLV0 dAV0 mixed (by kernel_rfl) ?_
      | refine AW_region E0 ?_ | refine AW_ret ?_ | refine AW_exit ?_ | refine AW_skip ?_ | unfold retQ); try simp only [push_cast, seval, *])
    | (apply AW_cond; (case hc => (simp only [push_cast, seval]; rfl)); all_goals (intro hc; first | (exfalso; simp only [push_cast, seval, *] at hc; done) | (exact absurd hc (by decide)) | ((try first | rw [Bool.not_true] at hc | rw [Bool.not_false] at hc); first | (with_reducible replace hc := tTT hc); clear hc | (with_reducible replace hc := tFF hc); clear hc | (have hp := hc; try simp only [decide_eq_true_eq, decide_eq_false_iff_not, bA, bB, bC, bD, bE, bF, bG, bH] at hp))))
    | (refine Kn.go hK ?_; clear hK K)
    | refine Kn.go (by assumption) ?_
    | (intro n hn; (try simp only [upd_none2, join_none_iff, ite_none, ne_eq] at hn); (try simp only [push_cast, seval, *]))
    | (intro hc)
    | fail)
  exact ⟨_, H2, Weak.less (by repeat' (first | exact unhid l1 | refine le_skip ?_ (unhid l4) | refine le_skip ?_ (le_no (unhid l1) hn))), y, g, H3, rfl, unhid l2, unhid l5⟩
end Go.Proofs.Ytlbdpnlmdcajbaa
