/- Tick; another attempt. -/
import Derived.Test.YtlbdpnlmdcajbaaS
namespace Go.Proofs.Ytlbdpnlmdcajbaa
open Go.RowKit
open Nat renaming reduceEqDiff → nA, reduceLT → nB, reduceLeDiff → nC, reduceAdd → nD, reduceMul → nE, reduceSub → nF, reduceBEq → nG
open Int renaming reduceToNat → iA, reduceLT → iB, reduceLE → iC, reduceEq → iD
open Bool renaming and_eq_true → bA, or_eq_true → bB, or_eq_false_iff → bC, and_eq_false_iff → bD, not_eq_true' → bE, not_eq_false' → bF, not_true → bG, not_false → bH
set_option linter.all false
set_option maxHeartbeats 4000000
attribute [local irreducible] AW Does ACall tE tS tB tZ
def dLT0 : List En := [(0, false, []), (1, true, []), (2, false, []), (3, false, [1]), (4, false, []), (5, false, [])]
def dAT0 : List (List Nat) := [[], [], [], [0], [0, 1, 3], [0, 1, 2, 3, 4]]
attribute [push_cast] dLT0
set_option maxRecDepth 5000

def tickR (c : Cd) (now : Int) : Cd × List Int × Int := if cdOk c = false then (zeroC, [], 320) else if tickE now = 0 then ({ c with pend := c.pend.filter fun p => !lateP c now p }, (c.pend.filter (lateP c now)).map Pd.num, 0) else (zeroC, [], tickE now)
theorem iu_map (l : List Pd) : (l.map fun p => iu p.num) = (l.map Pd.num).map iu := by rw [List.map_map]; rfl
/-- the tail of Tick and Restart: what is told beside -/
theorem two_fin {y g : AV} {l : List Pd} {rs : List (List AV)} {H' G' Gs G : Heap} {n5 : Nat} (ho : OwnP y l H' G') (hg : OwnL G' g 25 1 rs (upd Gs n5 (gl g))) (hle : Heap.le G Gs) (gn5 : G n5 = none) :
    ∃ H2 H3, Heap.le H2 H' ∧ OwnP y l H2 H3 ∧ OwnL H3 g 25 1 rs G ∧ ∀ m, Gs m ≠ none → G m = none → H2 m = none := by
  obtain ⟨H3, a1, a2, a3⟩ := (Loc.own g 25 1 rs).cutx hg (K := G) (le_skip hle gn5)
  obtain ⟨H2, b1, b2, b3⟩ := (OwnP_loc y l).cutx ho (K := H3) a1
  refine ⟨H2, H3, b1, b2, a2, fun m hm hG => ?_⟩
  have e1 : upd Gs n5 (gl g) m ≠ none := by
    by_cases e : m = n5
    · subst e; rw [upd_same]; simp
    · rw [upd_ne e]; exact hm
  refine b3 m ?_ (a3 m e1 hG)
  cases hq : upd Gs n5 (gl g) m with
  | none => exact absurd hq e1
  | some b => rw [(Loc.own g 25 1 rs).get hg hq]; simp
theorem Tick_o (c : Cd) (hl : c.pend.length ≤ maxLen) (hfit : c.fits) (now : Int) (G : Heap) :
    ACall Try.prog 39 [.g (Cd.av c), .c (.int .i64 now)] G fun r H' => ∃ y g H1, r = .t [.g ((tickR c now).1.cl y), g, .c (.int .i64 (tickR c now).2.2)] ∧ OwnP y (tickR c now).1.pend H' H1 ∧ OwnL H1 g 25 1 ((tickR c now).2.1.map iu) G := by
  have hw : ∀ Gs n2 n4, Gs n2 = some (.r 2 1 1 [[.c (.int .i64 now)]]) → Gs n4 = some (gl (.c (.slice none 0 0))) → ¬ n2 = n4 →
      ACall Try.prog 60 [.g (Cd.av c), .f (.func 73) [] [.p n2 1 0 0, .p n4 1 0 0]] Gs fun r H' => ∃ y G', r = .t [.g ((tickR c now).1.cl y), .c (.int .i64 (tickR c now).2.2)] ∧ OwnP y (tickR c now).1.pend H' G' ∧ ∃ g, OwnL G' g 25 1 ((tickR c now).2.1.map iu) (upd Gs n4 (gl g)) := fun Gs n2 n4 g2 g4 g24 => by
    have hnil : ∃ g, OwnL Gs g 25 1 (([] : List Int).map iu) (upd Gs n4 (gl g)) := ⟨.c (.slice none 0 0), by rw [upd_self g4]; exact OwnL.nil _ _ _⟩
    have h := with_all c hl hfit.2 73 [.p n2 1 0 0, .p n4 1 0 0] Gs (tickE now) { c with pend := c.pend.filter fun p => !lateP c now p } (fun G' => ∃ g, OwnL G' g 25 1 ((tickR c now).2.1.map iu) (upd Gs n4 (gl g))) (fun hok => by simp only [tickR, hok, if_true]; exact hnil) (fun hok x A nb hnb ho => by
      refine (tick1_a c hok now x A nb Gs hnb n2 n4 g24 g2 g4 ho).mono ?_
      rintro r A' ⟨rfl, h⟩
      refine ⟨rfl, ?_⟩
      simp only [tickR, hok, Bool.true_eq_false, if_false]
      rcases h with ⟨he, x', G', h0, h1, h2⟩ | ⟨he, G', rfl, h1⟩
      · exact .inl ⟨he, x', G', by rw [if_pos he]; simp only [← iu_map]; exact h0, h1, h2⟩
      · exact .inr ⟨he, G', by rw [if_neg he]; exact hnil, h1⟩)
    have e1 : (wRes c (tickE now) { c with pend := c.pend.filter fun p => !lateP c now p }).1 = (tickR c now).1 := by unfold wRes tickR; by_cases q1 : cdOk c = false <;> by_cases q2 : tickE now = 0 <;> simp [q1, q2]
    have e2 : (wRes c (tickE now) { c with pend := c.pend.filter fun p => !lateP c now p }).2 = (tickR c now).2.2 := by unfold wRes tickR; by_cases q1 : cdOk c = false <;> by_cases q2 : tickE now = 0 <;> simp [q1, q2]
    rw [e1, e2] at h
    exact h
  generalize tickR c now = R at *
  obtain ⟨R1, R2, R3⟩ := R
  obtain ⟨c0, c1, c2, c3, c4, l⟩ := c
  simp only [Cd.av, Cd.cl] at hw ⊢
  clear hl hfit
  replace hw := Lib.hid hw
  refine ACall_of' Try.func39 rfl (Ent_of Try.func39 (by kernel_rfl) rfl) (by simp [Try.ntmps39]) ?_; simp only [Try.ntmps39, Try.results39]
  repeat' (first
    | refine AW_seq_kn fun K hK => ?_
    | refine AW_block ?_
    | ((first
      | refine AW_region_draw (id := 3) E0 (fun f => [].contains f) dLT0 dAT0 mixed (by kernel_rfl) ?_
      | refine AW_region E0 ?_ | refine AW_ret ?_ | refine AW_exit ?_ | refine AW_skip ?_ | unfold retQ); try simp only [push_cast, seval, *])
    | (apply AW_cond; (case hc => (simp only [push_cast, seval]; rfl)); all_goals (intro hc; first | (exfalso; simp only [push_cast, seval, *] at hc; done) | (exact absurd hc (by decide)) | ((try first | rw [Bool.not_true] at hc | rw [Bool.not_false] at hc); first | (with_reducible replace hc := tTT hc); clear hc | (with_reducible replace hc := tFF hc); clear hc | (have hp := hc; try simp only [decide_eq_true_eq, decide_eq_false_iff_not, bA, bB, bC, bD, bE, bF, bG, bH] at hp))))
    | (refine Kn.go hK ?_; clear hK K)
    | refine Kn.go (by assumption) ?_
    | (intro n hn; (try simp only [upd_none2, join_none_iff, ite_none, ne_eq] at hn); (try simp only [push_cast, seval, *]))
    | (intro hc)
    | fail)
  rename_i n1 h1 n2 h2 n3 h3
  generalize n = n4 at *
  obtain ⟨Gs, hGs⟩ : ∃ Gs : Heap, Gs = upd (upd (upd (upd G n1 (.r 30 6 1 [[.c (.int .u64 c0), .c (.int .u64 c1), .c (.int .i64 c2), .c (.int .i64 c3), .c (.int .i64 c4), .l 4 (l.map Pd.av)]])) n2 (.r 2 1 1 [[.c (.int .i64 now)]])) n3 (.r 30 6 1 [zrow])) n4 (gl (.c (.slice none 0 0))) := ⟨_, rfl⟩
  have g2 : Gs n2 = some (.r 2 1 1 [[.c (.int .i64 now)]]) := by rw [hGs]; simp only [push_cast, seval, upd_get, *]
  have g3 : Gs n3 = some (.r 30 6 1 [zrow]) := by rw [hGs]; simp only [push_cast, seval, upd_get, *]
  have g4 : Gs n4 = some (gl (.c (.slice none 0 0))) := by rw [hGs]; exact upd_same _ _ _
  have d24 : ¬ n2 = n4 := hn.2.1.2
  have d34 : ¬ n3 = n4 := hn.1.2
  have d43 : ¬ n4 = n3 := hn.1.1
  have gn3 : G n3 = none := h3.2.2
  have gn4 : G n4 = none := hn.2.2.2
  have hle : Heap.le G Gs := by rw [hGs]; (repeat' (first | exact Heap.le_refl _ | refine hle_upd2 ?_ _ _ | (refine Heap.le_new ?_ ?_; rotate_left 1; focus (first | assumption | (simp only [upd_none2, upd_get, ne_eq, push_cast, seval, *]; done) | (simp [upd_get, *]; done)))))
  rw [← hGs]
  clear hGs h1 h2 h3 hn
  refine does_call rfl rfl ?_
  simp only [push_cast, seval, *]
  refine ACall.mono (unhid hw Gs n2 n4 g2 g4 d24) ?_
  rintro _ H' ⟨y, G', rfl, ho, g, hg⟩
  have k3 := (OwnP_loc y R1.pend).get ho (hg.get (m := n3) (by rw [upd_ne d34]; exact g3))
  have k4 := (OwnP_loc y R1.pend).get ho (hg.get (upd_same _ _ _))
  obtain ⟨H2, H3, l1, l2, l5, l3⟩ := two_fin ho hg hle gn4
  have l4 := l3 n3 (by rw [g3]; simp) gn3
  have hycs := l2.cs
  have hyone := l2.one
  have hgcs := l5.cs
  have hgone := l5.one
  simp only [zrow] at k3
  have o4 := ne_old k4
  have o5 := ne_old k3
  clear hw ho hg g2 g3 g4 d24 gn3 gn4 hle l3
  replace l1 := Lib.hid l1
  replace l2 := Lib.hid l2
  replace l4 := Lib.hid l4
  replace l5 := Lib.hid l5
  (try simp only [push_cast, seval, *])
  repeat' (first
    | refine AW_seq_kn fun K hK => ?_
    | refine AW_block ?_
    | ((first
      | refine AW_region_draw (id := 3) E0 (fun f => [].contains f) dLT0 dAT0 mixed (by kernel_rfl) ?_
      | refine AW_region E0 ?_ | refine AW_ret ?_ | refine AW_exit ?_ | refine AW_skip ?_ | unfold retQ); try simp only [push_cast, seval, *])
    | (apply AW_cond; (case hc => (simp only [push_cast, seval]; rfl)); all_goals (intro hc; first | (exfalso; simp only [push_cast, seval, *] at hc; done) | (exact absurd hc (by decide)) | ((try first | rw [Bool.not_true] at hc | rw [Bool.not_false] at hc); first | (with_reducible replace hc := tTT hc); clear hc | (with_reducible replace hc := tFF hc); clear hc | (have hp := hc; try simp only [decide_eq_true_eq, decide_eq_false_iff_not, bA, bB, bC, bD, bE, bF, bG, bH] at hp))))
    | (refine Kn.go hK ?_; clear hK K)
    | refine Kn.go (by assumption) ?_
    | (intro n hn; (try simp only [upd_none2, join_none_iff, ite_none, ne_eq] at hn); (try simp only [push_cast, seval, *]))
    | (intro hc)
    | fail)
  exact ⟨_, H2, Weak.less (by repeat' (first | exact unhid l1 | refine le_skip ?_ (unhid l4) | refine le_skip ?_ (le_no (unhid l1) hn))), y, g, H3, rfl, unhid l2, unhid l5⟩
end Go.Proofs.Ytlbdpnlmdcajbaa
