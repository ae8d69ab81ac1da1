/- Walks: what Do and Run hand to with. -/
import Derived.Test.YtmkncbddjnaklaaTN
namespace Go.Proofs.Ytmkncbddjnaklaa
open Go.RowKit
open Nat renaming reduceEqDiff → nA, reduceLT → nB, reduceLeDiff → nC, reduceAdd → nD, reduceMul → nE, reduceSub → nF, reduceBEq → nG
open Int renaming reduceToNat → iA, reduceLT → iB, reduceLE → iC, reduceEq → iD
open Bool renaming and_eq_true → bA, or_eq_true → bB, or_eq_false_iff → bC, and_eq_false_iff → bD, not_eq_true' → bE, not_eq_false' → bF, not_true → bG, not_false → bH
set_option linter.all false
set_option maxHeartbeats 4000000
attribute [local irreducible] AW Does ACall tE tS tB tZ

def RunT (o : OpD) (T : List KC) (O l : List Rec) : List KC × List Rec × Int := if 40 < l.length then (T, O, 3) else runA o T O l
theorem run1_a (o : OpD) (hlO : o.ins.length ≤ maxLen) (hA : o.A ≤ 9223372036854775807) (l : List Rec) (hl : l.length ≤ maxLen) (T : List KC) (hT : T.length ≤ 90000) (hri : Rise T) (O : List Rec) (hO : O.length ≤ 1000) (x y : AV) (nb no nop nl : Nat) (Q B : Heap) (hQb : Q nb = none) (hQo : Q no = none)
    (h1 : Q nop = some (.r 24 5 1 [OpD.av o])) (h2 : Q nl = some (.r 50 1 1 [[.l 3 (l.map Rec.av)]])) (htw : TwoO Q nb no x y T O B) :
    ACall Try.prog 74 ([.p nb 1 0 0] ++ [.p nl 1 0 0, .p nop 5 0 0, .p no 1 0 0]) B fun q H' => q = .c (.int .i64 (RunT o T O l).2.2) ∧ ∃ x' y', TwoO Q nb no x' y' (RunT o T O l).1 (RunT o T O l).2.1 H' := by
  unfold maxLen at hl
  have k1 := htw.get hQo h1
  have k2 := htw.get hQo h2
  simp only [List.cons_append, List.nil_append]
  unfold RunT
  by_cases hc : 40 < l.length
  · rw [if_pos hc]
    have hcT : ((40 : Int) < l.length) = True := by simp; omega
    clear hc hlO hA
    replace htw := Lib.hid htw
    refine ACall_of' Try.func74 rfl (Ent_of Try.func74 (by kernel_rfl) rfl) (by simp [Try.ntmps74]) ?_; simp only [Try.ntmps74, Try.results74]
    repeat' (first
    | refine AW_seq_kn fun K hK => ?_
    | refine AW_block ?_
    | ((first
      | refine AW_region E0 ?_ | refine AW_ret ?_ | refine AW_exit ?_ | refine AW_skip ?_ | unfold retQ); try simp only [push_cast, seval, *])
    | (apply AW_cond; (case hc => (simp only [push_cast, seval]; rfl)); all_goals (intro hc; first | (exfalso; simp only [push_cast, seval, *] at hc; done) | (exact absurd hc (by decide)) | ((try first | rw [Bool.not_true] at hc | rw [Bool.not_false] at hc); first | (with_reducible replace hc := tTT hc); clear hc | (with_reducible replace hc := tFF hc); clear hc | (have hp := hc; try simp only [decide_eq_true_eq, decide_eq_false_iff_not, bA, bB, bC, bD, bE, bF, bG, bH] at hp))))
    | (refine Kn.go hK ?_; clear hK K)
    | refine Kn.go (by assumption) ?_
    | (intro n hn; (try simp only [upd_none2, join_none_iff, ite_none, ne_eq] at hn); (try simp only [push_cast, seval, *]))
    | (intro hc)
    | fail)
    exact ⟨_, _, Weak.refl _ _, rfl, x, y, unhid htw⟩
  · rw [if_neg hc]
    have hcF : ((40 : Int) < l.length) = False := by simp; omega
    have hrun := trun_o o hlO hA l (by omega) T hT hri O hO x y nb no Q B hQb hQo htw
    generalize runA o T O l = R at *
    obtain ⟨ot, ow, oi, oA, oB⟩ := o
    simp only [OpD.av] at hrun k1
    replace hrun := Lib.hid hrun
    clear h1 h2 hlO hA hT hO hc htw
    refine ACall_of' Try.func74 rfl (Ent_of Try.func74 (by kernel_rfl) rfl) (by simp [Try.ntmps74]) ?_; simp only [Try.ntmps74, Try.results74]
    repeat' (first
    | refine AW_seq_kn fun K hK => ?_
    | refine AW_block ?_
    | ((first
      | refine AW_region E0 ?_ | refine AW_ret ?_ | refine AW_exit ?_ | refine AW_skip ?_ | unfold retQ); try simp only [push_cast, seval, *])
    | (apply AW_cond; (case hc => (simp only [push_cast, seval]; rfl)); all_goals (intro hc; first | (exfalso; simp only [push_cast, seval, *] at hc; done) | (exact absurd hc (by decide)) | ((try first | rw [Bool.not_true] at hc | rw [Bool.not_false] at hc); first | (with_reducible replace hc := tTT hc); clear hc | (with_reducible replace hc := tFF hc); clear hc | (have hp := hc; try simp only [decide_eq_true_eq, decide_eq_false_iff_not, bA, bB, bC, bD, bE, bF, bG, bH] at hp))))
    | (refine Kn.go hK ?_; clear hK K)
    | refine Kn.go (by assumption) ?_
    | (intro n hn; (try simp only [upd_none2, join_none_iff, ite_none, ne_eq] at hn); (try simp only [push_cast, seval, *]))
    | (intro hc)
    | fail)
    refine does_call rfl rfl ?_
    simp only [push_cast, seval, *]
    refine ACall.mono (unhid hrun) ?_
    rintro _ H2 ⟨rfl, x', y', w2⟩
    clear hrun k1 k2
    replace w2 := Lib.hid w2
    (try simp only [push_cast, seval, *])
    repeat' (first
    | refine AW_seq_kn fun K hK => ?_
    | refine AW_block ?_
    | ((first
      | refine AW_region E0 ?_ | refine AW_ret ?_ | refine AW_exit ?_ | refine AW_skip ?_ | unfold retQ); try simp only [push_cast, seval, *])
    | (apply AW_cond; (case hc => (simp only [push_cast, seval]; rfl)); all_goals (intro hc; first | (exfalso; simp only [push_cast, seval, *] at hc; done) | (exact absurd hc (by decide)) | ((try first | rw [Bool.not_true] at hc | rw [Bool.not_false] at hc); first | (with_reducible replace hc := tTT hc); clear hc | (with_reducible replace hc := tFF hc); clear hc | (have hp := hc; try simp only [decide_eq_true_eq, decide_eq_false_iff_not, bA, bB, bC, bD, bE, bF, bG, bH] at hp))))
    | (refine Kn.go hK ?_; clear hK K)
    | refine Kn.go (by assumption) ?_
    | (intro n hn; (try simp only [upd_none2, join_none_iff, ite_none, ne_eq] at hn); (try simp only [push_cast, seval, *]))
    | (intro hc)
    | fail)
    exact ⟨_, _, Weak.refl _ _, rfl, x', y', unhid w2⟩
end Go.Proofs.Ytmkncbddjnaklaa
