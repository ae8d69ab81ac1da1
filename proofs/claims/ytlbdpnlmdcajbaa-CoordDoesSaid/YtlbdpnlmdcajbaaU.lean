/- Another attempt. -/
import Derived.Test.YtlbdpnlmdcajbaaT
namespace Go.Proofs.Ytlbdpnlmdcajbaa
open Go.RowKit
open Nat renaming reduceEqDiff → nA, reduceLT → nB, reduceLeDiff → nC, reduceAdd → nD, reduceMul → nE, reduceSub → nF, reduceBEq → nG
open Int renaming reduceToNat → iA, reduceLT → iB, reduceLE → iC, reduceEq → iD
open Bool renaming and_eq_true → bA, or_eq_true → bB, or_eq_false_iff → bC, and_eq_false_iff → bD, not_eq_true' → bE, not_eq_false' → bF, not_true → bG, not_false → bH
set_option linter.all false
set_option maxHeartbeats 4000000
attribute [local irreducible] AW Does ACall tE tS tB tZ
def dLU0 : List En := [(0, false, []), (1, false, []), (2, false, []), (3, false, []), (4, false, []), (5, false, []), (6, false, [])]
def dAU0 : List (List Nat) := [[], [], [1], [1, 2], [1, 2, 3], [0, 1, 2, 3, 4], [0, 1, 2, 3, 4, 5]]
attribute [push_cast] dLU0
def dLU1 : List En := [(0, false, []), (1, false, []), (2, false, []), (3, true, []), (4, false, []), (5, false, []), (6, false, [3]), (7, false, []), (8, false, []), (9, false, [])]
def dAU1 : List (List Nat) := [[], [], [], [], [0, 2], [0, 2, 4], [0, 2, 4, 5], [0, 1, 2, 3, 4, 5, 6], [0, 1, 2, 3, 4, 5, 6, 7], [0, 1, 2, 3, 4, 5, 6, 7, 8]]
attribute [push_cast] dLU1
set_option maxRecDepth 5000

def restE (c : Cd) (ts at_ : Int) : Int := if (decide (1 ≤ ts) && decide (ts ≤ 16)) = false then 2 else if (decide (1 ≤ at_) && decide (at_ ≤ 1048576)) = false then 2 else if at_ ≤ c.attempt then 321 else 0
def restC (c : Cd) (ts at_ : Int) : Cd := { c with tasks := ts, attempt := at_, pend := [] }
theorem rest11_a (y : AV) (p : Pd) (hy : y.cs = some [y]) (A : Heap) :
    ACall Try.prog 76 ([.g (encP (y, p))] ++ []) A fun r A' => r = .c (.bool true) ∧ A' = A := by
  obtain ⟨num, bg, sv, ac⟩ := p
  simp only [encP, List.cons_append, List.nil_append]
  refine ACall_of' Try.func76 rfl (Ent_of Try.func76 (by kernel_rfl) rfl) (by simp [Try.ntmps76]) ?_; simp only [Try.ntmps76, Try.results76]
  repeat' (first
    | refine AW_seq_kn fun K hK => ?_
    | refine AW_block ?_
    | ((first
      | refine AW_region E0 ?_ | refine AW_ret ?_ | refine AW_exit ?_ | refine AW_skip ?_ | unfold retQ); try simp only [push_cast, seval, *])
    | (apply AW_cond; (case hc => (simp only [push_cast, seval]; rfl)); all_goals (intro hc; first | (exfalso; simp only [push_cast, seval, *] at hc; done) | (exact absurd hc (by decide)) | ((try first | rw [Bool.not_true] at hc | rw [Bool.not_false] at hc); first | (with_reducible replace hc := tTT hc); clear hc | (with_reducible replace hc := tFF hc); clear hc | (have hp := hc; try simp only [decide_eq_true_eq, decide_eq_false_iff_not, bA, bB, bC, bD, bE, bF, bG, bH] at hp))))
    | (refine Kn.go hK ?_; clear hK K)
    | refine Kn.go (by assumption) ?_
    | (intro n hn; (try simp only [upd_none2, join_none_iff, ite_none, ne_eq] at hn); (try simp only [push_cast, seval, *]))
    | (intro hc)
    | fail)
  exact ⟨_, _, Weak.less (by (simp only [push_cast, seval, *])), rfl, rfl⟩
theorem rest1_a (c : Cd) (hok : cdOk c = true) (ts at_ : Int) (x : AV) (A : Heap) (nb : Nat) (G : Heap) (hnb : G nb = none) (m1 m2 m3 : Nat) (h13 : ¬ m1 = m3) (h23 : ¬ m2 = m3) (h1 : G m1 = some (.r 3 1 1 [[.c (.int .i64 ts)]])) (h2 : G m2 = some (.r 3 1 1 [[.c (.int .i64 at_)]])) (h3 : G m3 = some (gl (.c (.slice none 0 0)))) (h : OwnP x c.pend A (upd G nb (bxC c x))) :
    ACall Try.prog 75 ([.p nb 6 0 0] ++ [.p m1 1 0 0, .p m2 1 0 0, .p m3 1 0 0]) A fun r A' => r = .c (.int .i64 (restE c ts at_)) ∧ ((restE c ts at_ = 0 ∧ ∃ x' G', (∃ g, OwnL G' g 25 1 (c.pend.map fun p => iu p.num) (upd G m3 (gl g))) ∧ G' nb = none ∧ OwnP x' [] A' (upd G' nb (bxC (restC c ts at_) x'))) ∨ (¬ restE c ts at_ = 0 ∧ ∃ G', G' = G ∧ Heap.le G' A')) := by
  have hne : ∀ m b, G m = some b → ¬ m = nb := fun m b hm => by rintro rfl; rw [hm] at hnb; cases hnb
  have b1 := hne _ _ h1
  have b2 := hne _ _ h2
  have b3 := hne _ _ h3
  have b3' : ¬ nb = m3 := fun e => b3 e.symm
  have h31 : ¬ m3 = m1 := fun e => h13 e.symm
  have h32 : ¬ m3 = m2 := fun e => h23 e.symm
  have b1' : ¬ nb = m1 := fun e => b1 e.symm
  have b2' : ¬ nb = m2 := fun e => b2 e.symm
  have kb := (OwnP_loc x c.pend).get h (upd_same _ _ _)
  have k1 := (OwnP_loc x c.pend).get h (m := m1) (by rw [upd_ne b1]; exact h1)
  have k2 := (OwnP_loc x c.pend).get h (m := m2) (by rw [upd_ne b2]; exact h2)
  have k3 := (OwnP_loc x c.pend).get h (m := m3) (by rw [upd_ne b3]; exact h3)
  have hle : Heap.le G A := Heap.le_trans (le_upd_new hnb) ((OwnP_loc x c.pend).le h)
  obtain ⟨hl2, hbd⟩ := cdOk_bd hok
  have hE : restE c ts at_ = if (decide (1 ≤ ts) && decide (ts ≤ 16)) = false then 2 else if (decide (1 ≤ at_) && decide (at_ ≤ 1048576)) = false then 2 else if at_ ≤ c.attempt then 321 else 0 := rfl
  generalize restE c ts at_ = E at *
  obtain ⟨Q, hQ⟩ : ∃ Q : AV → Heap → Prop, Q = fun r A' => r = .c (.int .i64 E) ∧ ((E = 0 ∧ ∃ x' G', (∃ g, OwnL G' g 25 1 (c.pend.map fun p => iu p.num) (upd G m3 (gl g))) ∧ G' nb = none ∧ OwnP x' [] A' (upd G' nb (bxC (restC c ts at_) x'))) ∨ (¬ E = 0 ∧ ∃ G', G' = G ∧ Heap.le G' A')) := ⟨_, rfl⟩
  rw [← hQ]
  have hbad : ¬ E = 0 → Q (.c (.int .i64 E)) A := fun he => by rw [hQ]; exact ⟨rfl, .inr ⟨he, G, rfl, hle⟩⟩
  have hgood : E = 0 → ∀ x' G' A', (∃ g, OwnL G' g 25 1 (c.pend.map fun p => iu p.num) (upd G m3 (gl g))) → G' nb = none → OwnP x' [] A' (upd G' nb (bxC (restC c ts at_) x')) → Q (.c (.int .i64 0)) A' := fun he x' G' A' q1 q2 q3 => by rw [hQ]; subst he; exact ⟨rfl, .inl ⟨rfl, x', G', q1, q2, q3⟩⟩
  have hdr : ACall Try.prog 70 [.p nb 6 0 0, .c (.func (.func 76) #[] #[])] A fun r H' => ∃ x' H1, OwnL H' r 25 1 (c.pend.map fun p => iu p.num) H1 ∧ OwnP x' [] H1 (upd G nb (bxC c x')) := by
    refine ACall.argw (args' := [.p nb 6 0 0, .f (.func 76) [] []]) (fun F => Imps.two (Imp.refl (Mem.le.refl F) _) id (Imp.fn _) (fun _ => rfl)) ?_
    refine (drop_o x c.pend A _ nb c (by omega) h (upd_same _ _ _) (fun _ => true) 76 [] (fun y p hp hy Gx hG => rest11_a y p hy Gx)).mono ?_
    rintro r H' ⟨x', H1, p1, p2⟩
    rw [upd_upd] at p2
    have f1 : (c.pend.filter fun _ => true) = c.pend := List.filter_eq_self.2 (fun _ _ => rfl)
    have f2 : (c.pend.filter fun _ => !true) = [] := List.filter_eq_nil_iff.2 (fun _ _ => by simp)
    rw [f1] at p1
    rw [f2] at p2
    exact ⟨x', H1, p1, p2⟩
  have hfin : ∀ g H1 H' x', OwnL H' g 25 1 (c.pend.map fun p => iu p.num) H1 → OwnP x' [] H1 (upd G nb (bxC c x')) → H' nb = some (bxC c x') ∧ H' m1 = some (.r 3 1 1 [[.c (.int .i64 ts)]]) ∧ H' m2 = some (.r 3 1 1 [[.c (.int .i64 at_)]]) ∧ H' m3 = some (gl (.c (.slice none 0 0))) ∧
      ∃ Hf', Heap.le Hf' (upd (upd H' m3 (gl g)) nb (bxC (restC c ts at_) x')) ∧ (E = 0 → Q (.c (.int .i64 0)) Hf') := fun g H1 H' x' o1 o2 => by
    have f := fun m b (hm : (upd G nb (bxC c x')) m = some b) => (Loc.own g 25 1 _).get o1 ((OwnP_loc x' _).get o2 hm)
    refine ⟨f _ _ (upd_same _ _ _), f _ _ (by rw [upd_ne b1]; exact h1), f _ _ (by rw [upd_ne b2]; exact h2), f _ _ (by rw [upd_ne b3]; exact h3), ?_⟩
    have e3 : (upd G nb (bxC c x')) m3 = some (gl (.c (.slice none 0 0))) := by rw [upd_ne b3]; exact h3
    have q1 := (OwnP_loc x' _).get o2 e3
    have t1 := (Loc.own g 25 1 _).turn o1 q1 (gl g)
    have t2 := (OwnP_loc x' _).turn o2 e3 (gl g)
    have eb : (upd (upd G nb (bxC c x')) m3 (gl g)) nb = some (bxC c x') := by rw [upd_ne b3', upd_same]
    have q2 := (OwnP_loc x' _).get t2 eb
    have t3 := (Loc.own g 25 1 _).turn t1 q2 (bxC (restC c ts at_) x')
    have t4 := (OwnP_loc x' _).turn t2 eb (bxC (restC c ts at_) x')
    obtain ⟨Hf', G', f1, f2, f3, f4⟩ := post_fin (Loc.own g 25 1 (c.pend.map fun p => iu p.num)) (nb := nb) (bx := bxC (restC c ts at_) x') (Gm := upd G m3 (gl g)) t3 t4 (fun q b hq => by
      by_cases c1 : q = nb
      · subst c1; rw [upd_same] at hq ⊢; exact hq
      · rw [upd_ne c1] at hq ⊢
        by_cases c2 : q = m3
        · subst c2; rw [upd_same] at hq ⊢; exact hq
        · rw [upd_ne c2] at hq ⊢; rw [upd_ne c1]; exact hq) (by rw [upd_ne b3']; exact hnb)
    exact ⟨Hf', f1, fun he => hgood he x' G' Hf' ⟨g, f2⟩ f3 f4⟩
  have hw1 := withinI_p ts 1 16
  clear hQ hle hne hok h1 h2 h3 hnb hgood h hbd hl2
  obtain ⟨c0, c1, c2, c3, c4, l⟩ := c
  simp only [bxC, Cd.cl, restC, List.cons_append, List.nil_append, gl] at kb k3 hfin hE hdr ⊢
  replace hbad := Lib.hid hbad
  replace hfin := Lib.hid hfin
  replace hdr := Lib.hid hdr
  cases hW : (decide (1 ≤ ts) && decide (ts ≤ 16))
  · rw [hW, if_pos rfl] at hE
    subst hE
    refine ACall_of' Try.func75 rfl (Ent_of Try.func75 (by kernel_rfl) rfl) (by simp [Try.ntmps75]) ?_; simp only [Try.ntmps75, Try.results75]
    repeat' (first
    | refine AW_seq_kn fun K hK => ?_
    | refine AW_block ?_
    | (refine does_call rfl rfl ?_; simp only [push_cast, seval, *]; refine ACall.monoP (withinI_p _ _ _ _) ?_; (try simp only [push_cast, seval, *]))
    | ((first
      | refine AW_region_draw (id := 3) E0 (fun f => [].contains f) dLU0 dAU0 mixed (by kernel_rfl) ?_
      | refine AW_region_draw (id := 6) E0 (fun f => [].contains f) dLU1 dAU1 mixed (by kernel_rfl) ?_
      | refine AW_region E0 ?_ | refine AW_ret ?_ | refine AW_exit ?_ | refine AW_skip ?_ | unfold retQ); try simp only [push_cast, seval, *])
    | ((first | (apply AW_cond; (case hc => (simp only [push_cast, seval]; rfl))) | (apply ER_guard; (case hb => (simp only [push_cast, seval]; rfl)))); all_goals ((intro hc; first | (exfalso; simp only [push_cast, seval, *] at hc; done) | (exact absurd hc (by decide)) | ((try first | rw [Bool.not_true] at hc | rw [Bool.not_false] at hc); first | (with_reducible replace hc := tTT hc); clear hc | (with_reducible replace hc := tFF hc); clear hc | (have hp := hc; try simp only [decide_eq_true_eq, decide_eq_false_iff_not, bA, bB, bC, bD, bE, bF, bG, bH] at hp))) <;> try simp only [push_cast, seval, *]))
    | (refine Kn.go hK ?_; clear hK K)
    | refine Kn.go (by assumption) ?_
    | (intro n hn; (try simp only [upd_none2, join_none_iff, ite_none, ne_eq] at hn); (try simp only [push_cast, seval, *]))
    | (intro hc)
    | (apply ER_blk; (case hp => rfl); (case hb => (simp only [push_cast, seval]; rfl)); (case hd => (simp only [push_cast, seval]; done)); (case h => (intro hc; simp only [push_cast, seval, *]; rfl)); simp only [push_cast, seval, *])
    | fail)
    exact ⟨_, _, Weak.refl _ _, unhid hbad (by decide)⟩
  rw [hW, if_neg (by decide)] at hE
  cases hW2 : (decide (1 ≤ at_) && decide (at_ ≤ 1048576))
  · rw [hW2, if_pos rfl] at hE
    subst hE
    refine ACall_of' Try.func75 rfl (Ent_of Try.func75 (by kernel_rfl) rfl) (by simp [Try.ntmps75]) ?_; simp only [Try.ntmps75, Try.results75]
    repeat' (first
    | refine AW_seq_kn fun K hK => ?_
    | refine AW_block ?_
    | (refine does_call rfl rfl ?_; simp only [push_cast, seval, *]; refine ACall.monoP (withinI_p _ _ _ _) ?_; (try simp only [push_cast, seval, *]))
    | ((first
      | refine AW_region_draw (id := 3) E0 (fun f => [].contains f) dLU0 dAU0 mixed (by kernel_rfl) ?_
      | refine AW_region_draw (id := 6) E0 (fun f => [].contains f) dLU1 dAU1 mixed (by kernel_rfl) ?_
      | refine AW_region E0 ?_ | refine AW_ret ?_ | refine AW_exit ?_ | refine AW_skip ?_ | unfold retQ); try simp only [push_cast, seval, *])
    | ((first | (apply AW_cond; (case hc => (simp only [push_cast, seval]; rfl))) | (apply ER_guard; (case hb => (simp only [push_cast, seval]; rfl)))); all_goals ((intro hc; first | (exfalso; simp only [push_cast, seval, *] at hc; done) | (exact absurd hc (by decide)) | ((try first | rw [Bool.not_true] at hc | rw [Bool.not_false] at hc); first | (with_reducible replace hc := tTT hc); clear hc | (with_reducible replace hc := tFF hc); clear hc | (have hp := hc; try simp only [decide_eq_true_eq, decide_eq_false_iff_not, bA, bB, bC, bD, bE, bF, bG, bH] at hp))) <;> try simp only [push_cast, seval, *]))
    | (refine Kn.go hK ?_; clear hK K)
    | refine Kn.go (by assumption) ?_
    | (intro n hn; (try simp only [upd_none2, join_none_iff, ite_none, ne_eq] at hn); (try simp only [push_cast, seval, *]))
    | (intro hc)
    | (apply ER_blk; (case hp => rfl); (case hb => (simp only [push_cast, seval]; rfl)); (case hd => (simp only [push_cast, seval]; done)); (case h => (intro hc; simp only [push_cast, seval, *]; rfl)); simp only [push_cast, seval, *])
    | fail)
    exact ⟨_, _, Weak.refl _ _, unhid hbad (by decide)⟩
  rw [hW2, if_neg (by decide)] at hE
  by_cases hA : at_ ≤ c3
  · rw [if_pos hA] at hE
    subst hE
    refine ACall_of' Try.func75 rfl (Ent_of Try.func75 (by kernel_rfl) rfl) (by simp [Try.ntmps75]) ?_; simp only [Try.ntmps75, Try.results75]
    repeat' (first
    | refine AW_seq_kn fun K hK => ?_
    | refine AW_block ?_
    | (refine does_call rfl rfl ?_; simp only [push_cast, seval, *]; refine ACall.monoP (withinI_p _ _ _ _) ?_; (try simp only [push_cast, seval, *]))
    | ((first
      | refine AW_region_draw (id := 3) E0 (fun f => [].contains f) dLU0 dAU0 mixed (by kernel_rfl) ?_
      | refine AW_region_draw (id := 6) E0 (fun f => [].contains f) dLU1 dAU1 mixed (by kernel_rfl) ?_
      | refine AW_region E0 ?_ | refine AW_ret ?_ | refine AW_exit ?_ | refine AW_skip ?_ | unfold retQ); try simp only [push_cast, seval, *])
    | ((first | (apply AW_cond; (case hc => (simp only [push_cast, seval]; rfl))) | (apply ER_guard; (case hb => (simp only [push_cast, seval]; rfl)))); all_goals ((intro hc; first | (exfalso; simp only [push_cast, seval, *] at hc; done) | (exact absurd hc (by decide)) | ((try first | rw [Bool.not_true] at hc | rw [Bool.not_false] at hc); first | (with_reducible replace hc := tTT hc); clear hc | (with_reducible replace hc := tFF hc); clear hc | (have hp := hc; try simp only [decide_eq_true_eq, decide_eq_false_iff_not, bA, bB, bC, bD, bE, bF, bG, bH] at hp))) <;> try simp only [push_cast, seval, *]))
    | (refine Kn.go hK ?_; clear hK K)
    | refine Kn.go (by assumption) ?_
    | (intro n hn; (try simp only [upd_none2, join_none_iff, ite_none, ne_eq] at hn); (try simp only [push_cast, seval, *]))
    | (intro hc)
    | (apply ER_blk; (case hp => rfl); (case hb => (simp only [push_cast, seval]; rfl)); (case hd => (simp only [push_cast, seval]; done)); (case h => (intro hc; simp only [push_cast, seval, *]; rfl)); simp only [push_cast, seval, *])
    | fail)
    exact ⟨_, _, Weak.refl _ _, unhid hbad (by decide)⟩
  rw [if_neg hA] at hE
  subst hE
  clear hbad
  refine ACall_of' Try.func75 rfl (Ent_of Try.func75 (by kernel_rfl) rfl) (by simp [Try.ntmps75]) ?_; simp only [Try.ntmps75, Try.results75]
  repeat' (first
    | refine AW_seq_kn fun K hK => ?_
    | refine AW_block ?_
    | (refine does_call rfl rfl ?_; simp only [push_cast, seval, *]; refine ACall.monoP (withinI_p _ _ _ _) ?_; (try simp only [push_cast, seval, *]))
    | ((first
      | refine AW_region_draw (id := 3) E0 (fun f => [].contains f) dLU0 dAU0 mixed (by kernel_rfl) ?_
      | refine AW_region_draw (id := 6) E0 (fun f => [].contains f) dLU1 dAU1 mixed (by kernel_rfl) ?_
      | refine AW_region E0 ?_ | refine AW_ret ?_ | refine AW_exit ?_ | refine AW_skip ?_ | unfold retQ); try simp only [push_cast, seval, *])
    | ((first | (apply AW_cond; (case hc => (simp only [push_cast, seval]; rfl))) | (apply ER_guard; (case hb => (simp only [push_cast, seval]; rfl)))); all_goals ((intro hc; first | (exfalso; simp only [push_cast, seval, *] at hc; done) | (exact absurd hc (by decide)) | ((try first | rw [Bool.not_true] at hc | rw [Bool.not_false] at hc); first | (with_reducible replace hc := tTT hc); clear hc | (with_reducible replace hc := tFF hc); clear hc | (have hp := hc; try simp only [decide_eq_true_eq, decide_eq_false_iff_not, bA, bB, bC, bD, bE, bF, bG, bH] at hp))) <;> try simp only [push_cast, seval, *]))
    | (refine Kn.go hK ?_; clear hK K)
    | refine Kn.go (by assumption) ?_
    | (intro n hn; (try simp only [upd_none2, join_none_iff, ite_none, ne_eq] at hn); (try simp only [push_cast, seval, *]))
    | (intro hc)
    | (apply ER_blk; (case hp => rfl); (case hb => (simp only [push_cast, seval]; rfl)); (case hd => (simp only [push_cast, seval]; done)); (case h => (intro hc; simp only [push_cast, seval, *]; rfl)); simp only [push_cast, seval, *])
    | fail)
  refine does_call rfl rfl ?_
  simp only [push_cast, seval, *]
  refine ACall.mono (unhid hdr) ?_
  rintro g H' ⟨x', H1, p1, p2⟩
  obtain ⟨j1, j2, j3, j4, Hf', f1, f2⟩ := unhid hfin g H1 H' x' p1 p2
  have f3 := f2 rfl
  have hgcs := p1.cs
  have hgone := p1.one
  have hxcs := p2.cs
  have hxone := p2.one
  clear hdr hfin p1 p2 kb k1 k2 k3 f2
  replace f1 := Lib.hid f1
  replace f3 := Lib.hid f3
  (try simp only [push_cast, seval, *])
  repeat' (first
    | refine AW_seq_kn fun K hK => ?_
    | refine AW_block ?_
    | (refine does_call rfl rfl ?_; simp only [push_cast, seval, *]; refine ACall.monoP (withinI_p _ _ _ _) ?_; (try simp only [push_cast, seval, *]))
    | ((first
      | refine AW_region_draw (id := 3) E0 (fun f => [].contains f) dLU0 dAU0 mixed (by kernel_rfl) ?_
      | refine AW_region_draw (id := 6) E0 (fun f => [].contains f) dLU1 dAU1 mixed (by kernel_rfl) ?_
      | refine AW_region E0 ?_ | refine AW_ret ?_ | refine AW_exit ?_ | refine AW_skip ?_ | unfold retQ); try simp only [push_cast, seval, *])
    | ((first | (apply AW_cond; (case hc => (simp only [push_cast, seval]; rfl))) | (apply ER_guard; (case hb => (simp only [push_cast, seval]; rfl)))); all_goals ((intro hc; first | (exfalso; simp only [push_cast, seval, *] at hc; done) | (exact absurd hc (by decide)) | ((try first | rw [Bool.not_true] at hc | rw [Bool.not_false] at hc); first | (with_reducible replace hc := tTT hc); clear hc | (with_reducible replace hc := tFF hc); clear hc | (have hp := hc; try simp only [decide_eq_true_eq, decide_eq_false_iff_not, bA, bB, bC, bD, bE, bF, bG, bH] at hp))) <;> try simp only [push_cast, seval, *]))
    | (refine Kn.go hK ?_; clear hK K)
    | refine Kn.go (by assumption) ?_
    | (intro n hn; (try simp only [upd_none2, join_none_iff, ite_none, ne_eq] at hn); (try simp only [push_cast, seval, *]))
    | (intro hc)
    | (apply ER_blk; (case hp => rfl); (case hb => (simp only [push_cast, seval]; rfl)); (case hd => (simp only [push_cast, seval]; done)); (case h => (intro hc; simp only [push_cast, seval, *]; rfl)); simp only [push_cast, seval, *])
    | fail)
  exact ⟨_, Hf', Weak.less (unhid f1), unhid f3⟩
end Go.Proofs.Ytlbdpnlmdcajbaa
