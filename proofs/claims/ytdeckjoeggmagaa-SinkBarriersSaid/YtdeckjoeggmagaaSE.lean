/- Walks: a sink begins; a barrier. -/
import Derived.Test.YtdeckjoeggmagaaSC
namespace Go.Proofs.Ytdeckjoeggmagaa
open Go.RowKit
open Nat renaming reduceEqDiff → nA, reduceLT → nB, reduceLeDiff → nC, reduceAdd → nD, reduceMul → nE, reduceSub → nF, reduceBEq → nG
open Int renaming reduceToNat → iA, reduceLT → iB, reduceLE → iC, reduceEq → iD
open Bool renaming and_eq_true → bA, or_eq_true → bB, or_eq_false_iff → bC, and_eq_false_iff → bD, not_eq_true' → bE, not_eq_false' → bF, not_true → bG, not_false → bH
set_option linter.all false
set_option maxHeartbeats 4000000
attribute [local irreducible] AW Does ACall tE tS tB tZ
set_option maxRecDepth 5000

def newSk (sub att : Int) (rdy : List Nm) : Sk := ⟨sub, att, 0, false, rdy⟩
def newR (sub att : Int) (rdy : List Nm) : Sk × Int := if (decide (0 ≤ sub) && decide (sub < 16) && decide (1 ≤ att) && decide (att ≤ 1048576)) = false then (zeroSk, 2) else if skOk (newSk sub att rdy) = true then (newSk sub att rdy, 0) else (zeroSk, 270)
abbrev skc (s : Sk) (z : AV) : List AV := [.c (.int .i64 s.sub), .c (.int .i64 s.att), .c (.int .i64 s.ser), .c (.bool s.opn), z]
theorem skc_lent {s : Sk} {z : AV} {M : Heap} (h : Lent M z (.l 3 (s.rdy.map Nm.av))) : Lent M (.g (skc s z)) (.g s.av) :=
  Lent.g (xs := skc s z) (ys := s.av) (show Lent M _ _ ∧ Lent M _ _ ∧ Lent M _ _ ∧ Lent M _ _ ∧ Lent M _ _ ∧ True from ⟨Lent.refl _ _, Lent.refl _ _, Lent.refl _ _, Lent.refl _ _, h, trivial⟩) (by intro w hw; simp only [Sk.av, List.mem_cons, List.not_mem_nil, or_false] at hw; rcases hw with rfl | rfl | rfl | rfl | rfl <;> rfl)
theorem New_o (sub att : Int) (rdy : List Nm) (hr : rdy.length ≤ 1000000) (H : Heap) :
    ACall Try.prog 40 [.c (.int .i64 sub), .c (.int .i64 att), .l 3 (rdy.map Nm.av)] H fun r H' => ∃ z, r = .t [.g (skc (newR sub att rdy).1 z), .c (.int .i64 (newR sub att rdy).2)] ∧ OwnL H' z 26 3 ((newR sub att rdy).1.rdy.map Nm.av) H := by
  have hcp := copied_o rdy hr
  have hck := sCheck_p (newSk sub att rdy) (by simp only [newSk]; unfold maxLen; omega)
  unfold newR
  have hz : zeroSk.rdy.map Nm.av = [] := rfl
  by_cases h1 : sub < 0
  · rw [decide_eq_false (show ¬ 0 ≤ sub by omega)]
    simp only [Bool.false_and, if_true, skc, zeroSk, List.map_nil]
    refine ACall_of' Try.func40 rfl (Ent_of Try.func40 (by kernel_rfl) rfl) (by simp [Try.ntmps40]) ?_; simp only [Try.ntmps40, Try.results40]
    repeat' (first
    | refine AW_seq_kn fun K hK => ?_
    | refine AW_block ?_
    | ((first
      | refine AW_region E0 ?_ | refine AW_ret ?_ | refine AW_exit ?_ | refine AW_skip ?_ | unfold retQ); try simp only [push_cast, seval, *])
    | ((first | (apply AW_cond; (case hc => (simp only [push_cast, seval]; rfl))) | (apply ER_guard; (case hb => (simp only [push_cast, seval]; rfl)))); all_goals ((intro hc; first | (exfalso; simp only [push_cast, seval, *] at hc; done) | (exact absurd hc (by decide)) | ((try first | rw [Bool.not_true] at hc | rw [Bool.not_false] at hc); first | (with_reducible replace hc := tTT hc); clear hc | (with_reducible replace hc := tFF hc); clear hc | (have hp := hc; try simp only [decide_eq_true_eq, decide_eq_false_iff_not, bA, bB, bC, bD, bE, bF, bG, bH] at hp))) <;> try simp only [push_cast, seval, *]))
    | (refine Kn.go hK ?_; clear hK K)
    | refine Kn.go (by assumption) ?_
    | (intro n hn; (try simp only [upd_none2, join_none_iff, ite_none, ne_eq] at hn); (try simp only [push_cast, seval, *]))
    | (intro hc)
    | (apply ER_blk; (case hp => rfl); (case hb => (simp only [push_cast, seval]; rfl)); (case hd => (simp only [push_cast, seval]; done)); (case h => (intro hc; simp only [push_cast, seval, *]; rfl)); simp only [push_cast, seval, *])
    | fail)
    exact ⟨_, _, Weak.less (by (repeat' (first | exact Heap.le_refl _ | refine hle_upd2 ?_ _ _ | (refine Heap.le_new ?_ ?_; rotate_left 1; focus (first | assumption | (simp only [upd_none2, upd_get, ne_eq, push_cast, seval, *]; done) | (simp [upd_get, *]; done)))))), _, rfl, OwnL.nil _ _ _⟩
  rw [decide_eq_true (show 0 ≤ sub by omega)]
  by_cases h2 : 16 ≤ sub
  · rw [decide_eq_false (show ¬ sub < 16 by omega)]
    simp only [Bool.true_and, Bool.false_and, if_true, skc, zeroSk, List.map_nil]
    refine ACall_of' Try.func40 rfl (Ent_of Try.func40 (by kernel_rfl) rfl) (by simp [Try.ntmps40]) ?_; simp only [Try.ntmps40, Try.results40]
    repeat' (first
    | refine AW_seq_kn fun K hK => ?_
    | refine AW_block ?_
    | ((first
      | refine AW_region E0 ?_ | refine AW_ret ?_ | refine AW_exit ?_ | refine AW_skip ?_ | unfold retQ); try simp only [push_cast, seval, *])
    | ((first | (apply AW_cond; (case hc => (simp only [push_cast, seval]; rfl))) | (apply ER_guard; (case hb => (simp only [push_cast, seval]; rfl)))); all_goals ((intro hc; first | (exfalso; simp only [push_cast, seval, *] at hc; done) | (exact absurd hc (by decide)) | ((try first | rw [Bool.not_true] at hc | rw [Bool.not_false] at hc); first | (with_reducible replace hc := tTT hc); clear hc | (with_reducible replace hc := tFF hc); clear hc | (have hp := hc; try simp only [decide_eq_true_eq, decide_eq_false_iff_not, bA, bB, bC, bD, bE, bF, bG, bH] at hp))) <;> try simp only [push_cast, seval, *]))
    | (refine Kn.go hK ?_; clear hK K)
    | refine Kn.go (by assumption) ?_
    | (intro n hn; (try simp only [upd_none2, join_none_iff, ite_none, ne_eq] at hn); (try simp only [push_cast, seval, *]))
    | (intro hc)
    | (apply ER_blk; (case hp => rfl); (case hb => (simp only [push_cast, seval]; rfl)); (case hd => (simp only [push_cast, seval]; done)); (case h => (intro hc; simp only [push_cast, seval, *]; rfl)); simp only [push_cast, seval, *])
    | fail)
    exact ⟨_, _, Weak.less (by (repeat' (first | exact Heap.le_refl _ | refine hle_upd2 ?_ _ _ | (refine Heap.le_new ?_ ?_; rotate_left 1; focus (first | assumption | (simp only [upd_none2, upd_get, ne_eq, push_cast, seval, *]; done) | (simp [upd_get, *]; done)))))), _, rfl, OwnL.nil _ _ _⟩
  rw [decide_eq_true (show sub < 16 by omega)]
  by_cases h3 : att < 1
  · rw [decide_eq_false (show ¬ 1 ≤ att by omega)]
    simp only [Bool.true_and, Bool.false_and, if_true, skc, zeroSk, List.map_nil]
    refine ACall_of' Try.func40 rfl (Ent_of Try.func40 (by kernel_rfl) rfl) (by simp [Try.ntmps40]) ?_; simp only [Try.ntmps40, Try.results40]
    repeat' (first
    | refine AW_seq_kn fun K hK => ?_
    | refine AW_block ?_
    | ((first
      | refine AW_region E0 ?_ | refine AW_ret ?_ | refine AW_exit ?_ | refine AW_skip ?_ | unfold retQ); try simp only [push_cast, seval, *])
    | ((first | (apply AW_cond; (case hc => (simp only [push_cast, seval]; rfl))) | (apply ER_guard; (case hb => (simp only [push_cast, seval]; rfl)))); all_goals ((intro hc; first | (exfalso; simp only [push_cast, seval, *] at hc; done) | (exact absurd hc (by decide)) | ((try first | rw [Bool.not_true] at hc | rw [Bool.not_false] at hc); first | (with_reducible replace hc := tTT hc); clear hc | (with_reducible replace hc := tFF hc); clear hc | (have hp := hc; try simp only [decide_eq_true_eq, decide_eq_false_iff_not, bA, bB, bC, bD, bE, bF, bG, bH] at hp))) <;> try simp only [push_cast, seval, *]))
    | (refine Kn.go hK ?_; clear hK K)
    | refine Kn.go (by assumption) ?_
    | (intro n hn; (try simp only [upd_none2, join_none_iff, ite_none, ne_eq] at hn); (try simp only [push_cast, seval, *]))
    | (intro hc)
    | (apply ER_blk; (case hp => rfl); (case hb => (simp only [push_cast, seval]; rfl)); (case hd => (simp only [push_cast, seval]; done)); (case h => (intro hc; simp only [push_cast, seval, *]; rfl)); simp only [push_cast, seval, *])
    | fail)
    exact ⟨_, _, Weak.less (by (repeat' (first | exact Heap.le_refl _ | refine hle_upd2 ?_ _ _ | (refine Heap.le_new ?_ ?_; rotate_left 1; focus (first | assumption | (simp only [upd_none2, upd_get, ne_eq, push_cast, seval, *]; done) | (simp [upd_get, *]; done)))))), _, rfl, OwnL.nil _ _ _⟩
  rw [decide_eq_true (show 1 ≤ att by omega)]
  by_cases h4 : 1048576 < att
  · rw [decide_eq_false (show ¬ att ≤ 1048576 by omega)]
    simp only [Bool.true_and, if_true, skc, zeroSk, List.map_nil]
    refine ACall_of' Try.func40 rfl (Ent_of Try.func40 (by kernel_rfl) rfl) (by simp [Try.ntmps40]) ?_; simp only [Try.ntmps40, Try.results40]
    repeat' (first
    | refine AW_seq_kn fun K hK => ?_
    | refine AW_block ?_
    | ((first
      | refine AW_region E0 ?_ | refine AW_ret ?_ | refine AW_exit ?_ | refine AW_skip ?_ | unfold retQ); try simp only [push_cast, seval, *])
    | ((first | (apply AW_cond; (case hc => (simp only [push_cast, seval]; rfl))) | (apply ER_guard; (case hb => (simp only [push_cast, seval]; rfl)))); all_goals ((intro hc; first | (exfalso; simp only [push_cast, seval, *] at hc; done) | (exact absurd hc (by decide)) | ((try first | rw [Bool.not_true] at hc | rw [Bool.not_false] at hc); first | (with_reducible replace hc := tTT hc); clear hc | (with_reducible replace hc := tFF hc); clear hc | (have hp := hc; try simp only [decide_eq_true_eq, decide_eq_false_iff_not, bA, bB, bC, bD, bE, bF, bG, bH] at hp))) <;> try simp only [push_cast, seval, *]))
    | (refine Kn.go hK ?_; clear hK K)
    | refine Kn.go (by assumption) ?_
    | (intro n hn; (try simp only [upd_none2, join_none_iff, ite_none, ne_eq] at hn); (try simp only [push_cast, seval, *]))
    | (intro hc)
    | (apply ER_blk; (case hp => rfl); (case hb => (simp only [push_cast, seval]; rfl)); (case hd => (simp only [push_cast, seval]; done)); (case h => (intro hc; simp only [push_cast, seval, *]; rfl)); simp only [push_cast, seval, *])
    | fail)
    exact ⟨_, _, Weak.less (by (repeat' (first | exact Heap.le_refl _ | refine hle_upd2 ?_ _ _ | (refine Heap.le_new ?_ ?_; rotate_left 1; focus (first | assumption | (simp only [upd_none2, upd_get, ne_eq, push_cast, seval, *]; done) | (simp [upd_get, *]; done)))))), _, rfl, OwnL.nil _ _ _⟩
  rw [decide_eq_true (show att ≤ 1048576 by omega)]
  simp only [Bool.true_and, Bool.true_eq_false, if_false]
  have hck2 : ∀ M z, Lent M z (.l 3 (rdy.map Nm.av)) → ACall Try.prog 31 [.g [.c (.int .i64 sub), .c (.int .i64 att), .c (.int .i64 0), .c (.bool false), z]] M fun r H' => r = .c (.int .i64 (if skOk (newSk sub att rdy) = true then 0 else 270)) ∧ H' = M := fun M z h =>
    ACall.lend (args' := [.g (Sk.av (newSk sub att rdy))]) (Flat.c _) (Lents.one (skc_lent (s := newSk sub att rdy) h)) hck.cl
  clear hck
  replace hck2 := Lib.hid hck2
  replace hcp := Lib.hid hcp
  cases hok : skOk (newSk sub att rdy)
  all_goals
    rw [hok] at hck2
    simp only [Bool.false_eq_true, if_false, if_true, skc, zeroSk, newSk, List.map_nil] at hck2 ⊢
    clear hok
    refine ACall_of' Try.func40 rfl (Ent_of Try.func40 (by kernel_rfl) rfl) (by simp [Try.ntmps40]) ?_; simp only [Try.ntmps40, Try.results40]
    repeat' (first
    | refine AW_seq_kn fun K hK => ?_
    | refine AW_block ?_
    | ((first
      | refine AW_region E0 ?_ | refine AW_ret ?_ | refine AW_exit ?_ | refine AW_skip ?_ | unfold retQ); try simp only [push_cast, seval, *])
    | ((first | (apply AW_cond; (case hc => (simp only [push_cast, seval]; rfl))) | (apply ER_guard; (case hb => (simp only [push_cast, seval]; rfl)))); all_goals ((intro hc; first | (exfalso; simp only [push_cast, seval, *] at hc; done) | (exact absurd hc (by decide)) | ((try first | rw [Bool.not_true] at hc | rw [Bool.not_false] at hc); first | (with_reducible replace hc := tTT hc); clear hc | (with_reducible replace hc := tFF hc); clear hc | (have hp := hc; try simp only [decide_eq_true_eq, decide_eq_false_iff_not, bA, bB, bC, bD, bE, bF, bG, bH] at hp))) <;> try simp only [push_cast, seval, *]))
    | (refine Kn.go hK ?_; clear hK K)
    | refine Kn.go (by assumption) ?_
    | (intro n hn; (try simp only [upd_none2, join_none_iff, ite_none, ne_eq] at hn); (try simp only [push_cast, seval, *]))
    | (intro hc)
    | (apply ER_blk; (case hp => rfl); (case hb => (simp only [push_cast, seval]; rfl)); (case hd => (simp only [push_cast, seval]; done)); (case h => (intro hc; simp only [push_cast, seval, *]; rfl)); simp only [push_cast, seval, *])
    | fail)
    refine does_call rfl rfl ?_
    simp only [push_cast, seval, *]
    refine ACall.mono (unhid hcp _) ?_
    intro z H' hz
    have zcs := hz.cs
    have zone := hz.one
    have zl := OwnL.lent hz
    have f1 := hz.get (upd_same _ _ _)
    obtain ⟨H2, l1, l2, l3⟩ := (Loc.own _ _ _ _).cutx hz (K := H) (le_upd_new hn)
    have l4 := l3 n (by rw [upd_same]; simp) hn
    have o1 := ne_old f1
    clear hz l3 hn hcp
    replace zl := Lib.hid zl
    replace l1 := Lib.hid l1
    replace l2 := Lib.hid l2
    replace l4 := Lib.hid l4
    (try simp only [push_cast, seval, *])
    repeat' (first
    | refine AW_seq_kn fun K hK => ?_
    | refine AW_block ?_
    | ((first
      | refine AW_region E0 ?_ | refine AW_ret ?_ | refine AW_exit ?_ | refine AW_skip ?_ | unfold retQ); try simp only [push_cast, seval, *])
    | ((first | (apply AW_cond; (case hc => (simp only [push_cast, seval]; rfl))) | (apply ER_guard; (case hb => (simp only [push_cast, seval]; rfl)))); all_goals ((intro hc; first | (exfalso; simp only [push_cast, seval, *] at hc; done) | (exact absurd hc (by decide)) | ((try first | rw [Bool.not_true] at hc | rw [Bool.not_false] at hc); first | (with_reducible replace hc := tTT hc); clear hc | (with_reducible replace hc := tFF hc); clear hc | (have hp := hc; try simp only [decide_eq_true_eq, decide_eq_false_iff_not, bA, bB, bC, bD, bE, bF, bG, bH] at hp))) <;> try simp only [push_cast, seval, *]))
    | (refine Kn.go hK ?_; clear hK K)
    | refine Kn.go (by assumption) ?_
    | (intro n hn; (try simp only [upd_none2, join_none_iff, ite_none, ne_eq] at hn); (try simp only [push_cast, seval, *]))
    | (intro hc)
    | (apply ER_blk; (case hp => rfl); (case hb => (simp only [push_cast, seval]; rfl)); (case hd => (simp only [push_cast, seval]; done)); (case h => (intro hc; simp only [push_cast, seval, *]; rfl)); simp only [push_cast, seval, *])
    | fail)
    have hlz := (unhid zl).mono (le_upd_new (k := .r 34 5 1 [[.c (.int .i64 sub), .c (.int .i64 att), .c (.int .i64 0), .c (.bool false), z]]) hn)
    have hx := unhid hck2 _ _ hlz
    clear hlz
    refine does_call rfl rfl ?_
    simp only [push_cast, seval, *]
    refine ACall.mono hx ?_
    (rintro _ _ ⟨rfl, e2⟩; have e3 := e2.symm; clear e2; subst e3)
    clear hx
    (try simp only [push_cast, seval, *])
    repeat' (first
    | refine AW_seq_kn fun K hK => ?_
    | refine AW_block ?_
    | ((first
      | refine AW_region E0 ?_ | refine AW_ret ?_ | refine AW_exit ?_ | refine AW_skip ?_ | unfold retQ); try simp only [push_cast, seval, *])
    | ((first | (apply AW_cond; (case hc => (simp only [push_cast, seval]; rfl))) | (apply ER_guard; (case hb => (simp only [push_cast, seval]; rfl)))); all_goals ((intro hc; first | (exfalso; simp only [push_cast, seval, *] at hc; done) | (exact absurd hc (by decide)) | ((try first | rw [Bool.not_true] at hc | rw [Bool.not_false] at hc); first | (with_reducible replace hc := tTT hc); clear hc | (with_reducible replace hc := tFF hc); clear hc | (have hp := hc; try simp only [decide_eq_true_eq, decide_eq_false_iff_not, bA, bB, bC, bD, bE, bF, bG, bH] at hp))) <;> try simp only [push_cast, seval, *]))
    | (refine Kn.go hK ?_; clear hK K)
    | refine Kn.go (by assumption) ?_
    | (intro n hn; (try simp only [upd_none2, join_none_iff, ite_none, ne_eq] at hn); (try simp only [push_cast, seval, *]))
    | (intro hc)
    | (apply ER_blk; (case hp => rfl); (case hb => (simp only [push_cast, seval]; rfl)); (case hd => (simp only [push_cast, seval]; done)); (case h => (intro hc; simp only [push_cast, seval, *]; rfl)); simp only [push_cast, seval, *])
    | fail)
    first
    | exact ⟨_, _, Weak.less (by repeat' (first | exact (Heap.le_trans ((Loc.own _ _ _ _).le (unhid l2)) (unhid l1)) | refine le_skip ?_ (by assumption) | refine le_skip ?_ (le_no ((Loc.own _ _ _ _).le (unhid l2)) (unhid l4)) | refine le_skip ?_ (le_no (Heap.le_trans ((Loc.own _ _ _ _).le (unhid l2)) (unhid l1)) (by assumption)))), _, rfl, OwnL.nil _ _ _⟩
    | exact ⟨_, H2, Weak.less (by repeat' (first | exact unhid l1 | refine le_skip ?_ (unhid l4) | refine le_skip ?_ (le_no (unhid l1) (by assumption)))), _, rfl, unhid l2⟩
end Go.Proofs.Ytdeckjoeggmagaa
