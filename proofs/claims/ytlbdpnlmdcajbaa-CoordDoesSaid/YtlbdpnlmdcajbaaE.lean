/- Walks: New. -/
import Derived.Test.YtlbdpnlmdcajbaaC
namespace Go.Proofs.Ytlbdpnlmdcajbaa
open Go.RowKit
open Nat renaming reduceEqDiff → nA, reduceLT → nB, reduceLeDiff → nC, reduceAdd → nD, reduceMul → nE, reduceSub → nF, reduceBEq → nG
open Int renaming reduceToNat → iA, reduceLT → iB, reduceLE → iC, reduceEq → iD
open Bool renaming and_eq_true → bA, or_eq_true → bB, or_eq_false_iff → bC, and_eq_false_iff → bD, not_eq_true' → bE, not_eq_false' → bF, not_true → bG, not_false → bH
set_option linter.all false
set_option maxHeartbeats 4000000
attribute [local irreducible] AW Does ACall tE tS tB tZ

def newS (ep ts at_ : Int) : Cd := ⟨ep, 0, ts, at_, 100, []⟩
theorem weak_nil6 {H : Heap} {a b c d e z : AV} (ad : Option Addr) : Weak (.t [.g [a, b, c, d, e, .c (.slice ad 0 0)], z]) H (.t [.g [a, b, c, d, e, .l 4 []], z]) H :=
  (OwnL.none' (H := H) (ad := ad) (sz := 4) (ty := 0)).weak fun F F' hF hi _ => Imp.t (Imps.cons (Imp.g (Imps.cons (Imp.refl hF _) id (Imps.cons (Imp.refl hF _) id (Imps.cons (Imp.refl hF _) id (Imps.cons (Imp.refl hF _) id (Imps.cons (Imp.refl hF _) id (Imps.cons (Imp.nil_l 4) (fun _ => rfl) Imps.nil))))))) id (Imps.cons (Imp.refl hF _) id Imps.nil))
theorem New_p (ep ts at_ : Int) : Pure Try.prog 10 [.c (.int .u64 ep), .c (.int .i64 ts), .c (.int .i64 at_)] (if cdOk (newS ep ts at_) = true then .t [.g (Cd.av (newS ep ts at_)), .c (.int .i64 0)] else .t [.g (Cd.av (newS 0 0 0 |> fun c => { c with span := 0 })), .c (.int .i64 2)]) := by
  intro H
  have hc0 := Check_p (newS ep ts at_) (by simp [newS]) (by simp [newS])
  have hc : ∀ G, ACall Try.prog 24 [.g [.c (.int .u64 ep), .c (.int .u64 0), .c (.int .i64 ts), .c (.int .i64 at_), .c (.int .i64 100), .c (.slice none 0 0)]] G fun r H' => r = .c (.int .i64 (if cdOk (newS ep ts at_) = true then 0 else 320)) ∧ H' = G := fun G =>
    ACall.lend (args' := [.g (Cd.av (newS ep ts at_))]) (Flat.c _) (Lents.one (Lent.g (show Lent _ _ _ ∧ Lent _ _ _ ∧ Lent _ _ _ ∧ Lent _ _ _ ∧ Lent _ _ _ ∧ Lent _ _ _ ∧ True from ⟨Lent.refl _ _, Lent.refl _ _, Lent.refl _ _, Lent.refl _ _, Lent.refl _ _, (OwnL.nil _ 0 4).lent, trivial⟩) (by intro y hy; simp only [Cd.av, List.mem_cons, List.not_mem_nil, or_false] at hy; rcases hy with rfl | rfl | rfl | rfl | rfl | rfl <;> rfl))) hc0.cl
  generalize hok : cdOk (newS ep ts at_) = ok at *
  simp only [newS, Cd.av, List.map_nil]
  clear hc0 hok
  cases ok
  all_goals
    simp only [if_true, if_false, Bool.false_eq_true] at hc ⊢
    replace hc := Lib.hid hc
    refine ACall_of' Try.func10 rfl (Ent_of Try.func10 (by kernel_rfl) rfl) (by simp [Try.ntmps10]) ?_; simp only [Try.ntmps10, Try.results10]
    repeat' (first
    | refine AW_seq_kn fun K hK => ?_
    | refine AW_block ?_
    | ((first
      | refine AW_region E0 ?_ | refine AW_ret ?_ | refine AW_exit ?_ | refine AW_skip ?_ | unfold retQ); try simp only [push_cast, seval, *])
    | (apply AW_cond; (case hc => (simp only [push_cast, seval]; rfl)); all_goals (intro hc; first | (exfalso; simp only [push_cast, seval, *] at hc; done) | (exact absurd hc (by decide)) | ((try first | rw [Bool.not_true] at hc | rw [Bool.not_false] at hc); first | (with_reducible replace hc := tTT hc); clear hc | (with_reducible replace hc := tFF hc); clear hc | (have hp := hc; try simp only [decide_eq_true_eq, decide_eq_false_iff_not, bA, bB, bC, bD, bE, bF, bG, bH] at hp))))
    | (refine Kn.go hK ?_; clear hK K)
    | refine Kn.go (by assumption) ?_
    | (intro n hn; (try simp only [upd_none2, join_none_iff, ite_none, ne_eq] at hn); (try simp only [push_cast, seval, *]))
    | (intro hc)
    | fail)
    refine does_call rfl rfl ?_
    simp only [push_cast, seval, *]
    refine ACall.mono (unhid hc _) ?_
    rintro _ _ ⟨rfl, e2⟩
    have e3 := e2.symm; clear e2; subst e3
    (try simp only [push_cast, seval, *])
    repeat' (first
    | refine AW_seq_kn fun K hK => ?_
    | refine AW_block ?_
    | ((first
      | refine AW_region E0 ?_ | refine AW_ret ?_ | refine AW_exit ?_ | refine AW_skip ?_ | unfold retQ); try simp only [push_cast, seval, *])
    | (apply AW_cond; (case hc => (simp only [push_cast, seval]; rfl)); all_goals (intro hc; first | (exfalso; simp only [push_cast, seval, *] at hc; done) | (exact absurd hc (by decide)) | ((try first | rw [Bool.not_true] at hc | rw [Bool.not_false] at hc); first | (with_reducible replace hc := tTT hc); clear hc | (with_reducible replace hc := tFF hc); clear hc | (have hp := hc; try simp only [decide_eq_true_eq, decide_eq_false_iff_not, bA, bB, bC, bD, bE, bF, bG, bH] at hp))))
    | (refine Kn.go hK ?_; clear hK K)
    | refine Kn.go (by assumption) ?_
    | (intro n hn; (try simp only [upd_none2, join_none_iff, ite_none, ne_eq] at hn); (try simp only [push_cast, seval, *]))
    | (intro hc)
    | fail)
    refine ⟨_, _, Weak.trans (Weak.less (by first | trivial | (repeat' (first | exact Heap.le_refl _ | refine hle_upd2 ?_ _ _ | (refine Heap.le_new ?_ ?_; rotate_left 1; focus (first | assumption | (simp only [upd_none2, upd_get, ne_eq, push_cast, seval, *]; done) | (simp [upd_get, *]; done))))))) (weak_nil6 _), rfl, rfl⟩
end Go.Proofs.Ytlbdpnlmdcajbaa
