/- Walks: the closure of Do. -/
import Derived.Test.YtmkncbddjnaklaaTO
namespace Go.Proofs.Ytmkncbddjnaklaa
open Go.RowKit
open Nat renaming reduceEqDiff → nA, reduceLT → nB, reduceLeDiff → nC, reduceAdd → nD, reduceMul → nE, reduceSub → nF, reduceBEq → nG
open Int renaming reduceToNat → iA, reduceLT → iB, reduceLE → iC, reduceEq → iD
open Bool renaming and_eq_true → bA, or_eq_true → bB, or_eq_false_iff → bC, and_eq_false_iff → bD, not_eq_true' → bE, not_eq_false' → bF, not_true → bG, not_false → bH
set_option linter.all false
set_option maxHeartbeats 4000000
attribute [local irreducible] AW Does ACall tE tS tB tZ

theorem do1_a (o : OpD) (hlO : o.ins.length ≤ maxLen) (hA : o.A ≤ 9223372036854775807) (r : Rec) (T : List KC) (hT : T.length ≤ 90000) (hri : Rise T) (O : List Rec) (hO : O.length ≤ 1000) (x y : AV) (nb no nop nr : Nat) (Q B : Heap) (hQb : Q nb = none) (hQo : Q no = none)
    (h1 : Q nop = some (.r 24 5 1 [OpD.av o])) (h2 : Q nr = some (.r 54 3 1 [Rec.av r])) (htw : TwoO Q nb no x y T O B) :
    ACall Try.prog 69 ([.p nb 1 0 0] ++ [.p nop 5 0 0, .p no 1 0 0, .p nr 3 0 0]) B fun q H' => q = .c (.int .i64 (runA o T O [r]).2.2) ∧ ∃ x' y', TwoO Q nb no x' y' (runA o T O [r]).1 (runA o T O [r]).2.1 H' := by
  have hrun := fun (n : Nat) (Q2 B2 : Heap) (a : Q2 nb = none) (b : Q2 no = none) (c : Q2 n = some (.r 54 3 1 [Rec.av r])) (d : TwoO Q2 nb no x y T O B2) => trun_s o hlO hA [r] (by simp) T hT hri O hO x y nb no Q2 B2 a b n 1 1 c d
  simp only [List.length_cons, List.length_nil, Nat.zero_add] at hrun
  generalize runA o T O [r] = R at *
  have k1 := htw.get hQo h1
  have k2 := htw.get hQo h2
  have kb := htw.getb
  have ko := htw.geto
  have hnb := ne_old kb
  have hno := ne_old ko
  have hn1 := ne_old k1
  have hn2 := ne_old k2
  obtain ⟨ot, ow, oi, oA, oB⟩ := o
  obtain ⟨rs, rk, rv⟩ := r
  simp only [OpD.av, Rec.av] at hrun k1 k2
  simp only [List.cons_append, List.nil_append]
  replace hrun := Lib.hid hrun
  replace htw := Lib.hid htw
  clear h1 h2 hlO hA hT hO
  refine ACall_of' Try.func69 rfl (Ent_of Try.func69 (by kernel_rfl) rfl) (by simp [Try.ntmps69]) ?_; simp only [Try.ntmps69, Try.results69]
  repeat' (first
    | refine AW_seq_kn fun K hK => ?_
    | refine AW_block ?_
    | ((first
      | refine AW_region E0 ?_ | refine AW_ret ?_ | refine AW_exit ?_ | refine AW_skip ?_ | unfold retQ); try simp only [push_cast, seval, *])
    | (apply AW_cond; (case hc => (simp only [push_cast, seval]; rfl)); all_goals (intro hc; first | (exfalso; simp only [push_cast, seval, *] at hc; done) | (exact absurd hc (by decide)) | ((try first | rw [Bool.not_true] at hc | rw [Bool.not_false] at hc); first | (with_reducible replace hc := tTT hc); clear hc | (with_reducible replace hc := tFF hc); clear hc | (have hp := hc; try simp only [decide_eq_true_eq, decide_eq_false_iff_not, bA, bB, bC, bD, bE, bF, bG, bH] at hp))))
    | (refine Kn.go hK ?_; clear hK K)
    | refine Kn.go (by assumption) ?_
    | (intro n hn; (try simp only [upd_none2, join_none_iff, ite_none, ne_eq] at hn); (try simp only [push_cast, seval, *]))
    | (intro hc)
    | fail)
  obtain ⟨w1, hQn⟩ := (unhid htw).new hn (.r 54 3 1 [[.c (.int .i64 rs), .c (.int .i64 rk), .c (.int .i64 rv)]])
  have cb : ¬ nb = n := of_eq_false (hnb n hn).1
  have co : ¬ no = n := of_eq_false (hno n hn).1
  refine does_call rfl rfl ?_
  simp only [push_cast, seval, *]
  refine ACall.mono (unhid hrun n _ _ (by rw [upd_ne cb]; exact hQb) (by rw [upd_ne co]; exact hQo) (upd_same _ _ _) w1) ?_
  rintro _ H2 ⟨rfl, x', y', w2⟩
  obtain ⟨H3, l1, l2⟩ := w2.cut (le_upd_new hQn)
  clear w1 w2 hrun htw kb ko k1 k2 hnb hno hn1 hn2 hn
  replace l1 := Lib.hid l1
  replace l2 := Lib.hid l2
  (try simp only [push_cast, seval, *])
  repeat' (first
    | refine AW_seq_kn fun K hK => ?_
    | refine AW_block ?_
    | ((first
      | refine AW_region E0 ?_ | refine AW_ret ?_ | refine AW_exit ?_ | refine AW_skip ?_ | unfold retQ); try simp only [push_cast, seval, *])
    | (apply AW_cond; (case hc => (simp only [push_cast, seval]; rfl)); all_goals (intro hc; first | (exfalso; simp only [push_cast, seval, *] at hc; done) | (exact absurd hc (by decide)) | ((try first | rw [Bool.not_true] at hc | rw [Bool.not_false] at hc); first | (with_reducible replace hc := tTT hc); clear hc | (with_reducible replace hc := tFF hc); clear hc | (have hp := hc; try simp only [decide_eq_true_eq, decide_eq_false_iff_not, bA, bB, bC, bD, bE, bF, bG, bH] at hp))))
    | (refine Kn.go hK ?_; clear hK K)
    | refine Kn.go (by assumption) ?_
    | (intro n hn; (try simp only [upd_none2, join_none_iff, ite_none, ne_eq] at hn); (try simp only [push_cast, seval, *]))
    | (intro hc)
    | fail)
  exact ⟨_, H3, Weak.less (unhid l1), rfl, x', y', unhid l2⟩
end Go.Proofs.Ytmkncbddjnaklaa
