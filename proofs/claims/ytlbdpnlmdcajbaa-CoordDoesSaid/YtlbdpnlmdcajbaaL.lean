/- Trigger. -/
import Derived.Test.YtlbdpnlmdcajbaaK
namespace Go.Proofs.Ytlbdpnlmdcajbaa
open Go.RowKit
open Nat renaming reduceEqDiff → nA, reduceLT → nB, reduceLeDiff → nC, reduceAdd → nD, reduceMul → nE, reduceSub → nF, reduceBEq → nG
open Int renaming reduceToNat → iA, reduceLT → iB, reduceLE → iC, reduceEq → iD
open Bool renaming and_eq_true → bA, or_eq_true → bB, or_eq_false_iff → bC, and_eq_false_iff → bD, not_eq_true' → bE, not_eq_false' → bF, not_true → bG, not_false → bH
set_option linter.all false
set_option maxHeartbeats 4000000
attribute [local irreducible] AW Does ACall tE tS tB tZ
def dLL0 : List En := [(0, false, []), (1, true, []), (2, false, []), (3, false, [1]), (4, false, []), (5, false, [])]
def dAL0 : List (List Nat) := [[], [], [], [0], [0, 1, 3], [0, 1, 2, 3, 4]]
attribute [push_cast] dLL0
set_option maxRecDepth 5000

def wRes (c : Cd) (e : Int) (c' : Cd) : Cd × Int := if cdOk c = false then (zeroC, 320) else if e = 0 then (c', 0) else (zeroC, e)
theorem with_all (c : Cd) (hl : c.pend.length ≤ maxLen) (hfit : ∀ p ∈ c.pend, p.fits) (gf : FuncId) (caps : List AV) (G : Heap) (e : Int) (c' : Cd) (J : Heap → Prop) (hJ0 : cdOk c = false → J G)
    (h : cdOk c = true → ∀ x A nb, G nb = none → OwnP x c.pend A (upd G nb (bxC c x)) → ACall Try.prog gf ([.p nb 6 0 0] ++ caps) A fun r A' => r = .c (.int .i64 e) ∧ ((e = 0 ∧ ∃ x' G', J G' ∧ G' nb = none ∧ OwnP x' c'.pend A' (upd G' nb (bxC c' x'))) ∨ (¬ e = 0 ∧ ∃ G', J G' ∧ Heap.le G' A'))) :
    ACall Try.prog 60 [.g (Cd.av c), .f (.func gf) [] caps] G fun r H' => ∃ y G', r = .t [.g ((wRes c e c').1.cl y), .c (.int .i64 (wRes c e c').2)] ∧ OwnP y (wRes c e c').1.pend H' G' ∧ J G' := by
  unfold wRes
  cases hok : cdOk c
  · refine (with_no c hl hfit hok gf caps G).mono ?_
    rintro r H' ⟨rfl, rfl⟩
    exact ⟨_, H', rfl, OwnSl.nil, hJ0 hok⟩
  · refine (with_g c hfit hok gf caps G e c' J (h hok)).mono ?_
    rintro r H' (⟨he, y, G', rfl, hJ, ho⟩ | ⟨he, rfl, hJ⟩)
    · simp only [he, if_true, Bool.true_eq_false, if_false]; exact ⟨y, G', rfl, ho, hJ⟩
    · simp only [he, Bool.true_eq_false, if_false]; exact ⟨_, H', rfl, OwnSl.nil, hJ⟩
theorem Loc.cutx {R : HR} (hR : Loc R) {H H0 K : Heap} (h : R H H0) (hk : Heap.le K H0) : ∃ H', Heap.le H' H ∧ R H' K ∧ ∀ m, H0 m ≠ none → K m = none → H' m = none := by
  obtain ⟨A, a1, a2, rfl⟩ := hR.dec h
  have a3 : Apart A K := fun q => by
    rcases a2 q with g | g
    · exact .inl g
    · right
      cases hq : K q with
      | none => rfl
      | some b => rw [hk q b hq] at g; cases g
  refine ⟨join A K, Heap.le_join (Heap.le_refl _) hk a2, hR.inc a1 a3, fun m h0 hK => join_none_iff.2 ⟨?_, hK⟩⟩
  rcases a2 m with g | g
  · exact g
  · exact absurd g h0
theorem le_skip {A B : Heap} {n : Nat} {k : Blk} (h : Heap.le A B) (hn : A n = none) : Heap.le A (upd B n k) := fun q b hq => by
  have : q ≠ n := by rintro rfl; rw [hn] at hq; cases hq
  rw [upd_ne this]; exact h q b hq
theorem le_no {A B : Heap} (h : Heap.le A B) {n : Nat} (hn : B n = none) : A n = none := by
  cases hq : A n with
  | none => rfl
  | some b => rw [h n b hq] at hn; cases hn
def trigR (c : Cd) (now : Int) (save : Bool) : Cd × Int × Int := if cdOk c = false then (zeroC, 0, 320) else if trigE c now = 0 then (trigC c now save, numS c.epoch (c.counter + 1), 0) else (zeroC, 0, trigE c now)
theorem cdOk_ep {c : Cd} (h : cdOk c = true) : 1 ≤ c.epoch ∧ c.counter ≤ 2147483647 ∧ 1 ≤ c.tasks ∧ c.tasks ≤ 16 ∧ 1 ≤ c.attempt ∧ c.attempt ≤ 1048576 ∧ 1 ≤ c.span ∧ c.span ≤ 100 := by
  simp only [cdOk, headOk, Bool.and_eq_true, decide_eq_true_eq] at h; omega
abbrev zrow : List AV := [.c (.int .u64 0), .c (.int .u64 0), .c (.int .i64 0), .c (.int .i64 0), .c (.int .i64 0), .c (.slice none 0 0)]
theorem Trigger_o (c : Cd) (hl : c.pend.length ≤ maxLen) (hfit : c.fits) (now : Int) (save : Bool) (G : Heap) :
    ACall Try.prog 31 [.g (Cd.av c), .c (.int .i64 now), .c (.bool save)] G fun r H' => ∃ y, r = .t [.g ((trigR c now save).1.cl y), .c (.int .u64 (trigR c now save).2.1), .c (.int .i64 (trigR c now save).2.2)] ∧ OwnP y (trigR c now save).1.pend H' G := by
  have hw : ∀ Gs n2 n5 n3, Gs n2 = some (.r 2 1 1 [[.c (.int .i64 now)]]) → Gs n5 = some (.r 25 1 1 [[.c (.int .u64 0)]]) → Gs n3 = some (.r 4 1 1 [[.c (.bool save)]]) → ¬ n2 = n5 → ¬ n3 = n5 →
      ACall Try.prog 60 [.g (Cd.av c), .f (.func 61) [] [.p n2 1 0 0, .p n5 1 0 0, .p n3 1 0 0]] Gs fun r H' => ∃ y G', r = .t [.g ((trigR c now save).1.cl y), .c (.int .i64 (trigR c now save).2.2)] ∧ OwnP y (trigR c now save).1.pend H' G' ∧ G' = upd Gs n5 (.r 25 1 1 [[.c (.int .u64 (trigR c now save).2.1)]]) := fun Gs n2 n5 n3 g2 g5 g3 g25 g35 => by
    have h := with_all c hl hfit.2 61 [.p n2 1 0 0, .p n5 1 0 0, .p n3 1 0 0] Gs (trigE c now) (trigC c now save) (fun G' => G' = upd Gs n5 (.r 25 1 1 [[.c (.int .u64 (trigR c now save).2.1)]])) (fun hok => by simp only [trigR, hok, if_true]; exact (upd_self g5).symm) (fun hok x A nb hnb ho => by
      have hbd := cdOk_bd hok
      have hep := cdOk_ep hok
      refine (trig1_a c hbd.1 (by omega) hfit.1.1 hep.2.1 now save x A nb Gs hnb n2 n5 n3 g2 g5 g3 g25 g35 ho).mono ?_
      rintro r A' ⟨rfl, h⟩
      refine ⟨rfl, ?_⟩
      simp only [trigR, hok, Bool.true_eq_false, if_false]
      rcases h with ⟨he, x', G', rfl, h1, h2⟩ | ⟨he, G', rfl, h1⟩
      · exact .inl ⟨he, x', _, by rw [if_pos he], h1, h2⟩
      · exact .inr ⟨he, G', by rw [if_neg he]; exact (upd_self g5).symm, h1⟩)
    have e1 : (wRes c (trigE c now) (trigC c now save)).1 = (trigR c now save).1 := by unfold wRes trigR; by_cases q1 : cdOk c = false <;> by_cases q2 : trigE c now = 0 <;> simp [q1, q2]
    have e2 : (wRes c (trigE c now) (trigC c now save)).2 = (trigR c now save).2.2 := by unfold wRes trigR; by_cases q1 : cdOk c = false <;> by_cases q2 : trigE c now = 0 <;> simp [q1, q2]
    rw [e1, e2] at h
    exact h
  generalize trigR c now save = R at *
  obtain ⟨R1, R2, R3⟩ := R
  obtain ⟨c0, c1, c2, c3, c4, l⟩ := c
  simp only [Cd.av, Cd.cl] at hw ⊢
  clear hl hfit
  replace hw := Lib.hid hw
  refine ACall_of' Try.func31 rfl (Ent_of Try.func31 (by kernel_rfl) rfl) (by simp [Try.ntmps31]) ?_; simp only [Try.ntmps31, Try.results31]
  repeat' (first
    | refine AW_seq_kn fun K hK => ?_
    | refine AW_block ?_
    | ((first
      | refine AW_region_draw (id := 3) E0 (fun f => [].contains f) dLL0 dAL0 mixed (by kernel_rfl) ?_
      | refine AW_region E0 ?_ | refine AW_ret ?_ | refine AW_exit ?_ | refine AW_skip ?_ | unfold retQ); try simp only [push_cast, seval, *])
    | (apply AW_cond; (case hc => (simp only [push_cast, seval]; rfl)); all_goals (intro hc; first | (exfalso; simp only [push_cast, seval, *] at hc; done) | (exact absurd hc (by decide)) | ((try first | rw [Bool.not_true] at hc | rw [Bool.not_false] at hc); first | (with_reducible replace hc := tTT hc); clear hc | (with_reducible replace hc := tFF hc); clear hc | (have hp := hc; try simp only [decide_eq_true_eq, decide_eq_false_iff_not, bA, bB, bC, bD, bE, bF, bG, bH] at hp))))
    | (refine Kn.go hK ?_; clear hK K)
    | refine Kn.go (by assumption) ?_
    | (intro n hn; (try simp only [upd_none2, join_none_iff, ite_none, ne_eq] at hn); (try simp only [push_cast, seval, *]))
    | (intro hc)
    | fail)
  rename_i n1 h1 n2 h2 n3 h3 n4 h4
  generalize n = n5 at *
  obtain ⟨Gs, hGs⟩ : ∃ Gs : Heap, Gs = upd (upd (upd (upd (upd G n1 (.r 30 6 1 [[.c (.int .u64 c0), .c (.int .u64 c1), .c (.int .i64 c2), .c (.int .i64 c3), .c (.int .i64 c4), .l 4 (l.map Pd.av)]])) n2 (.r 2 1 1 [[.c (.int .i64 now)]])) n3 (.r 4 1 1 [[.c (.bool save)]])) n4 (.r 30 6 1 [zrow])) n5 (.r 25 1 1 [[.c (.int .u64 0)]]) := ⟨_, rfl⟩
  have g2 : Gs n2 = some (.r 2 1 1 [[.c (.int .i64 now)]]) := by rw [hGs]; simp only [push_cast, seval, upd_get, *]
  have g3 : Gs n3 = some (.r 4 1 1 [[.c (.bool save)]]) := by rw [hGs]; simp only [push_cast, seval, upd_get, *]
  have g4 : Gs n4 = some (.r 30 6 1 [zrow]) := by rw [hGs]; simp only [push_cast, seval, upd_get, *]
  have g5 : Gs n5 = some (.r 25 1 1 [[.c (.int .u64 0)]]) := by rw [hGs]; exact upd_same _ _ _
  have d25 : ¬ n2 = n5 := hn.2.2.1.2
  have d35 : ¬ n3 = n5 := hn.2.1.2
  have d45 : ¬ n4 = n5 := hn.1.2
  have gn4 : G n4 = none := h4.2.2.2
  have gn5 : G n5 = none := hn.2.2.2.2
  have hle : Heap.le G Gs := by rw [hGs]; (repeat' (first | exact Heap.le_refl _ | refine hle_upd2 ?_ _ _ | (refine Heap.le_new ?_ ?_; rotate_left 1; focus (first | assumption | (simp only [upd_none2, upd_get, ne_eq, push_cast, seval, *]; done) | (simp [upd_get, *]; done)))))
  rw [← hGs]
  clear hGs h1 h2 h3 h4 hn
  refine does_call rfl rfl ?_
  simp only [push_cast, seval, *]
  refine ACall.mono (unhid hw Gs n2 n5 n3 g2 g5 g3 d25 d35) ?_
  rintro _ H' ⟨y, _, rfl, ho, rfl⟩
  have k4 := (OwnP_loc y R1.pend).get ho (m := n4) (by rw [upd_ne d45]; exact g4)
  have k5 := (OwnP_loc y R1.pend).get ho (upd_same _ _ _)
  obtain ⟨H2, l1, l2, l3⟩ := (OwnP_loc y R1.pend).cutx ho (K := G) (le_skip hle gn5)
  have l4 := l3 n4 (by rw [upd_ne d45, g4]; simp) gn4
  have hycs := l2.cs
  have hyone := l2.one
  simp only [zrow] at k4
  have o4 := ne_old k4
  have o5 := ne_old k5
  have d54 : ¬ n5 = n4 := fun e => d45 e.symm
  clear hw ho g2 g3 g4 g5 d25 d35 gn4 gn5 hle l3
  replace l1 := Lib.hid l1
  replace l2 := Lib.hid l2
  replace l4 := Lib.hid l4
  (try simp only [push_cast, seval, *])
  repeat' (first
    | refine AW_seq_kn fun K hK => ?_
    | refine AW_block ?_
    | ((first
      | refine AW_region_draw (id := 3) E0 (fun f => [].contains f) dLL0 dAL0 mixed (by kernel_rfl) ?_
      | refine AW_region E0 ?_ | refine AW_ret ?_ | refine AW_exit ?_ | refine AW_skip ?_ | unfold retQ); try simp only [push_cast, seval, *])
    | (apply AW_cond; (case hc => (simp only [push_cast, seval]; rfl)); all_goals (intro hc; first | (exfalso; simp only [push_cast, seval, *] at hc; done) | (exact absurd hc (by decide)) | ((try first | rw [Bool.not_true] at hc | rw [Bool.not_false] at hc); first | (with_reducible replace hc := tTT hc); clear hc | (with_reducible replace hc := tFF hc); clear hc | (have hp := hc; try simp only [decide_eq_true_eq, decide_eq_false_iff_not, bA, bB, bC, bD, bE, bF, bG, bH] at hp))))
    | (refine Kn.go hK ?_; clear hK K)
    | refine Kn.go (by assumption) ?_
    | (intro n hn; (try simp only [upd_none2, join_none_iff, ite_none, ne_eq] at hn); (try simp only [push_cast, seval, *]))
    | (intro hc)
    | fail)
  exact ⟨_, H2, Weak.less (by repeat' (first | exact unhid l1 | refine le_skip ?_ (unhid l4) | refine le_skip ?_ (le_no (unhid l1) hn))), y, rfl, unhid l2⟩
end Go.Proofs.Ytlbdpnlmdcajbaa
