/- Complete. -/
import Derived.Test.YtlbdpnlmdcajbaaW
namespace Go.Proofs.Ytlbdpnlmdcajbaa
open Go.RowKit
open Nat renaming reduceEqDiff → nA, reduceLT → nB, reduceLeDiff → nC, reduceAdd → nD, reduceMul → nE, reduceSub → nF, reduceBEq → nG
open Int renaming reduceToNat → iA, reduceLT → iB, reduceLE → iC, reduceEq → iD
open Bool renaming and_eq_true → bA, or_eq_true → bB, or_eq_false_iff → bC, and_eq_false_iff → bD, not_eq_true' → bE, not_eq_false' → bF, not_true → bG, not_false → bH
set_option linter.all false
set_option maxHeartbeats 4000000
attribute [local irreducible] AW Does ACall tE tS tB tZ
def dLX0 : List En := [(0, false, []), (1, true, []), (2, true, []), (3, false, []), (4, false, [1, 2]), (5, false, []), (6, false, []), (7, false, [])]
def dAX0 : List (List Nat) := [[], [], [], [], [0], [0, 1, 4], [0, 1, 2, 4, 5], [0, 1, 2, 3, 4, 5, 6]]
attribute [push_cast] dLX0
set_option maxRecDepth 5000

def compR (c : Cd) (n : Int) : Cd × List Ak × List Int × Int := if cdOk c = false then (zeroC, [], [], 320) else if compE c n = 0 then (compC c n, (pdAt c n).acks, ((rest22 c n).filter (ltP n)).map Pd.num, 0) else (zeroC, [], [], compE c n)
theorem Loc.cutd {R : HR} (hR : Loc R) {H H0 K : Heap} (h : R H H0) (hk : Heap.le K H0) {p : Nat → Prop} (hp : ∀ m, p m → H0 m ≠ none ∧ K m = none) : ∃ H', Heap.le H' H ∧ R H' K ∧ ∀ m, p m → H m ≠ none ∧ H' m = none := by
  obtain ⟨H', a1, a2, a3⟩ := hR.cutx h hk
  refine ⟨H', a1, a2, fun m hm => ⟨?_, a3 m (hp m hm).1 (hp m hm).2⟩⟩
  cases hq : H0 m with
  | none => exact absurd hq (hp m hm).1
  | some b => rw [hR.get h hq]; simp
theorem three_fin {yc y g : AV} {l : List Pd} {acks : List Ak} {rs : List (List AV)} {H' G' G1 Gt G : Heap} (ho : OwnP yc l H' G') (hg : OwnL G' g 25 1 rs G1) (ha : OwnA y acks G1 Gt) (hle : Heap.le G Gt) :
    ∃ H2 H3 H4, Heap.le H2 H' ∧ OwnP yc l H2 H3 ∧ OwnL H3 g 25 1 rs H4 ∧ OwnA y acks H4 G ∧ ∀ m, Gt m ≠ none → G m = none → H2 m = none := by
  obtain ⟨H4, a1, a2, a3⟩ := (OwnA_loc y acks).cutd ha hle (p := fun m => Gt m ≠ none ∧ G m = none) (fun m h => h)
  obtain ⟨H3, b1, b2, b3⟩ := (Loc.own g 25 1 rs).cutd hg a1 a3
  obtain ⟨H2, c1, c2, c3⟩ := (OwnP_loc yc l).cutd ho b1 b3
  exact ⟨H2, H3, H4, c1, c2, b2, a2, fun m h1 h2 => (c3 m ⟨h1, h2⟩).2⟩
theorem Complete_o (c : Cd) (hl : c.pend.length ≤ maxLen) (hfit : c.fits) (nm : Int) (G : Heap) :
    ACall Try.prog 33 [.g (Cd.av c), .c (.int .u64 nm)] G fun r H' => ∃ y ya g H1 H2, r = .t [.g ((compR c nm).1.cl y), ya, g, .c (.int .i64 (compR c nm).2.2.2)] ∧ OwnP y (compR c nm).1.pend H' H1 ∧ OwnL H1 g 25 1 ((compR c nm).2.2.1.map iu) H2 ∧ OwnA ya (compR c nm).2.1 H2 G := by
  have hw : ∀ Gs n2 n4 n5, Gs n2 = some (.r 25 1 1 [[.c (.int .u64 nm)]]) → Gs n4 = some (al (.c (.slice none 0 0))) → Gs n5 = some (gl (.c (.slice none 0 0))) → ¬ n2 = n4 → ¬ n2 = n5 → ¬ n4 = n5 →
      ACall Try.prog 60 [.g (Cd.av c), .f (.func 68) [] [.p n2 1 0 0, .p n4 1 0 0, .p n5 1 0 0]] Gs fun r H' => ∃ y G', r = .t [.g ((compR c nm).1.cl y), .c (.int .i64 (compR c nm).2.2.2)] ∧ OwnP y (compR c nm).1.pend H' G' ∧ ∃ ya g G1, OwnL G' g 25 1 ((compR c nm).2.2.1.map iu) G1 ∧ OwnA ya (compR c nm).2.1 G1 (upd (upd Gs n4 (al ya)) n5 (gl g)) := fun Gs n2 n4 n5 g2 g4 g5 g24 g25 g45 => by
    have hnil : ∃ ya g G1, OwnL Gs g 25 1 (([] : List Int).map iu) G1 ∧ OwnA ya [] G1 (upd (upd Gs n4 (al ya)) n5 (gl g)) := ⟨.c (.slice none 0 0), .c (.slice none 0 0), Gs, OwnL.nil _ _ _, by rw [upd_self g4, upd_self g5]; exact OwnSl.nil⟩
    have h := with_all c hl hfit.2 68 [.p n2 1 0 0, .p n4 1 0 0, .p n5 1 0 0] Gs (compE c nm) (compC c nm) (fun G' => ∃ ya g G1, OwnL G' g 25 1 ((compR c nm).2.2.1.map iu) G1 ∧ OwnA ya (compR c nm).2.1 G1 (upd (upd Gs n4 (al ya)) n5 (gl g))) (fun hok => by simp only [compR, hok, if_true]; exact hnil) (fun hok x A nb hnb ho => by
      refine (comp1_a c hok nm x A nb Gs hnb n2 n4 n5 g24 g25 g45 g2 g4 g5 ho).mono ?_
      rintro r A' ⟨rfl, h⟩
      refine ⟨rfl, ?_⟩
      simp only [compR, hok, Bool.true_eq_false, if_false]
      rcases h with ⟨he, x', G', h0, h1, h2⟩ | ⟨he, G', rfl, h1⟩
      · exact .inl ⟨he, x', G', by rw [if_pos he]; simp only [← iu_map]; exact h0, h1, h2⟩
      · exact .inr ⟨he, G', by rw [if_neg he]; exact hnil, h1⟩)
    have e1 : (wRes c (compE c nm) (compC c nm)).1 = (compR c nm).1 := by unfold wRes compR; by_cases q1 : cdOk c = false <;> by_cases q2 : compE c nm = 0 <;> simp [q1, q2]
    have e2 : (wRes c (compE c nm) (compC c nm)).2 = (compR c nm).2.2.2 := by unfold wRes compR; by_cases q1 : cdOk c = false <;> by_cases q2 : compE c nm = 0 <;> simp [q1, q2]
    rw [e1, e2] at h
    exact h
  generalize compR c nm = R at *
  obtain ⟨R1, R2, R3, R4⟩ := R
  obtain ⟨c0, c1, c2, c3, c4, l⟩ := c
  simp only [Cd.av, Cd.cl] at hw ⊢
  clear hl hfit
  replace hw := Lib.hid hw
  refine ACall_of' Try.func33 rfl (Ent_of Try.func33 (by kernel_rfl) rfl) (by simp [Try.ntmps33]) ?_; simp only [Try.ntmps33, Try.results33]
  repeat' (first
    | refine AW_seq_kn fun K hK => ?_
    | refine AW_block ?_
    | ((first
      | refine AW_region_draw (id := 4) E0 (fun f => [].contains f) dLX0 dAX0 mixed (by kernel_rfl) ?_
      | refine AW_region E0 ?_ | refine AW_ret ?_ | refine AW_exit ?_ | refine AW_skip ?_ | unfold retQ); try simp only [push_cast, seval, *])
    | (apply AW_cond; (case hc => (simp only [push_cast, seval]; rfl)); all_goals (intro hc; first | (exfalso; simp only [push_cast, seval, *] at hc; done) | (exact absurd hc (by decide)) | ((try first | rw [Bool.not_true] at hc | rw [Bool.not_false] at hc); first | (with_reducible replace hc := tTT hc); clear hc | (with_reducible replace hc := tFF hc); clear hc | (have hp := hc; try simp only [decide_eq_true_eq, decide_eq_false_iff_not, bA, bB, bC, bD, bE, bF, bG, bH] at hp))))
    | (refine Kn.go hK ?_; clear hK K)
    | refine Kn.go (by assumption) ?_
    | (intro n hn; (try simp only [upd_none2, join_none_iff, ite_none, ne_eq] at hn); (try simp only [push_cast, seval, *]))
    | (intro hc)
    | fail)
  rename_i n1 h1 n2 h2 n3 h3 n4 h4
  generalize n = n5 at *
  obtain ⟨Gs, hGs⟩ : ∃ Gs : Heap, Gs = upd (upd (upd (upd (upd G n1 (.r 30 6 1 [[.c (.int .u64 c0), .c (.int .u64 c1), .c (.int .i64 c2), .c (.int .i64 c3), .c (.int .i64 c4), .l 4 (l.map Pd.av)]])) n2 (.r 25 1 1 [[.c (.int .u64 nm)]])) n3 (.r 30 6 1 [zrow])) n4 (al (.c (.slice none 0 0)))) n5 (gl (.c (.slice none 0 0))) := ⟨_, rfl⟩
  have g2 : Gs n2 = some (.r 25 1 1 [[.c (.int .u64 nm)]]) := by rw [hGs]; simp only [push_cast, seval, upd_get, *]
  have g3 : Gs n3 = some (.r 30 6 1 [zrow]) := by rw [hGs]; simp only [push_cast, seval, upd_get, *]
  have g4 : Gs n4 = some (al (.c (.slice none 0 0))) := by rw [hGs]; simp only [push_cast, seval, upd_get, *]
  have g5 : Gs n5 = some (gl (.c (.slice none 0 0))) := by rw [hGs]; exact upd_same _ _ _
  have d24 : ¬ n2 = n4 := h4.2.1.2
  have d25 : ¬ n2 = n5 := hn.2.2.1.2
  have d45 : ¬ n4 = n5 := hn.1.2
  have d54 : ¬ n5 = n4 := hn.1.1
  have d35 : ¬ n3 = n5 := hn.2.1.2
  have d53 : ¬ n5 = n3 := hn.2.1.1
  have d34 : ¬ n3 = n4 := h4.1.2
  have d43 : ¬ n4 = n3 := h4.1.1
  have gn3 : G n3 = none := h3.2.2
  have gn4 : G n4 = none := h4.2.2.2
  have gn5 : G n5 = none := hn.2.2.2.2
  have hle : Heap.le G Gs := by rw [hGs]; (repeat' (first | exact Heap.le_refl _ | refine hle_upd2 ?_ _ _ | (refine Heap.le_new ?_ ?_; rotate_left 1; focus (first | assumption | (simp only [upd_none2, upd_get, ne_eq, push_cast, seval, *]; done) | (simp [upd_get, *]; done)))))
  rw [← hGs]
  clear hGs h1 h2 h3 h4 hn
  refine does_call rfl rfl ?_
  simp only [push_cast, seval, *]
  refine ACall.mono (unhid hw Gs n2 n4 n5 g2 g4 g5 d24 d25 d45) ?_
  rintro _ H' ⟨y, G', rfl, ho, ya, g, G1, hg, ha⟩
  have hall : ∀ m b, (upd (upd Gs n4 (al ya)) n5 (gl g)) m = some b → H' m = some b := fun m b hm => (OwnP_loc y R1.pend).get ho (hg.get ((OwnA_loc ya R2).get ha hm))
  have k3 := hall n3 _ (by rw [upd_ne d35, upd_ne d34]; exact g3)
  have k4 := hall n4 _ (by rw [upd_ne d45, upd_same])
  have k5 := hall n5 _ (upd_same _ _ _)
  obtain ⟨H2, H3, H4, l1, l2, l5, l6, l3⟩ := three_fin ho hg ha (le_skip (le_skip hle gn4) gn5)
  have l4 := l3 n3 (by rw [upd_ne d35, upd_ne d34, g3]; simp) gn3
  have hycs := l2.cs
  have hyone := l2.one
  have hgcs := l5.cs
  have hgone := l5.one
  have hacs := l6.cs
  have haone := l6.one
  simp only [zrow] at k3
  have o3 := ne_old k3
  have o4 := ne_old k4
  have o5 := ne_old k5
  clear hw ho hg ha hall g2 g3 g4 g5 d24 d25 gn3 gn4 gn5 hle l3
  replace l1 := Lib.hid l1
  replace l2 := Lib.hid l2
  replace l4 := Lib.hid l4
  replace l5 := Lib.hid l5
  replace l6 := Lib.hid l6
  (try simp only [push_cast, seval, *])
  repeat' (first
    | refine AW_seq_kn fun K hK => ?_
    | refine AW_block ?_
    | ((first
      | refine AW_region_draw (id := 4) E0 (fun f => [].contains f) dLX0 dAX0 mixed (by kernel_rfl) ?_
      | refine AW_region E0 ?_ | refine AW_ret ?_ | refine AW_exit ?_ | refine AW_skip ?_ | unfold retQ); try simp only [push_cast, seval, *])
    | (apply AW_cond; (case hc => (simp only [push_cast, seval]; rfl)); all_goals (intro hc; first | (exfalso; simp only [push_cast, seval, *] at hc; done) | (exact absurd hc (by decide)) | ((try first | rw [Bool.not_true] at hc | rw [Bool.not_false] at hc); first | (with_reducible replace hc := tTT hc); clear hc | (with_reducible replace hc := tFF hc); clear hc | (have hp := hc; try simp only [decide_eq_true_eq, decide_eq_false_iff_not, bA, bB, bC, bD, bE, bF, bG, bH] at hp))))
    | (refine Kn.go hK ?_; clear hK K)
    | refine Kn.go (by assumption) ?_
    | (intro n hn; (try simp only [upd_none2, join_none_iff, ite_none, ne_eq] at hn); (try simp only [push_cast, seval, *]))
    | (intro hc)
    | fail)
  exact ⟨_, H2, Weak.less (by repeat' (first | exact unhid l1 | refine le_skip ?_ (unhid l4) | refine le_skip ?_ (le_no (unhid l1) hn))), y, ya, g, H3, H4, rfl, unhid l2, unhid l5, unhid l6⟩
end Go.Proofs.Ytlbdpnlmdcajbaa
