/- Walks: groups and shares of records. -/
import Derived.Test.YtmkncbddjnaklaaTC
namespace Go.Proofs.Ytmkncbddjnaklaa
open Go.RowKit
open Nat renaming reduceEqDiff → nA, reduceLT → nB, reduceLeDiff → nC, reduceAdd → nD, reduceMul → nE, reduceSub → nF, reduceBEq → nG
open Int renaming reduceToNat → iA, reduceLT → iB, reduceLE → iC, reduceEq → iD
open Bool renaming and_eq_true → bA, or_eq_true → bB, or_eq_false_iff → bC, and_eq_false_iff → bD, not_eq_true' → bE, not_eq_false' → bF, not_true → bG, not_false → bH
set_option linter.all false
set_option maxHeartbeats 4000000
attribute [local irreducible] AW Does ACall tE tS tB tZ

def ownS (g w : Int) : Int := (IntKind.i64.wrap (g * w)).tdiv 8
theorem wrap_div8 (x : Int) : IntKind.i64.wrap ((IntKind.i64.wrap x).tdiv 8) = (IntKind.i64.wrap x).tdiv 8 := by
  have h : -9223372036854775808 ≤ IntKind.i64.wrap x ∧ IntKind.i64.wrap x ≤ 9223372036854775807 := by
    simp only [IntKind.wrap, IntKind.bits, IntKind.signed]; simp; split <;> omega
  rw [wrap_i64]
  · have := Int.tdiv_eq_ediv (a := IntKind.i64.wrap x) (b := 8); have e : Int.sign 8 = 1 := rfl; rw [e] at this; split at this <;> omega
  · have := Int.tdiv_eq_ediv (a := IntKind.i64.wrap x) (b := 8); have e : Int.sign 8 = 1 := rfl; rw [e] at this; split at this <;> omega
theorem owner_p (g w : Int) : Pure Try.prog 92 [.c (.int .i64 g), .c (.int .i64 w)] (.c (.int .i64 (ownS g w))) := by
  intro H
  refine ACall_of' Try.func92 rfl (Ent_of Try.func92 (by kernel_rfl) rfl) (by simp [Try.ntmps92]) ?_; simp only [Try.ntmps92, Try.results92]
  repeat' (first
    | refine AW_seq_kn fun K hK => ?_
    | refine AW_block ?_
    | ((first
      | refine AW_region E0 ?_ | refine AW_ret ?_ | refine AW_exit ?_ | refine AW_skip ?_ | unfold retQ); try simp only [push_cast, seval, *])
    | (apply AW_cond; (case hc => (simp only [push_cast, seval]; rfl)); all_goals (intro hc; first | (exfalso; simp only [push_cast, seval, *] at hc; done) | (exact absurd hc (by decide)) | ((try first | rw [Bool.not_true] at hc | rw [Bool.not_false] at hc); first | (with_reducible replace hc := tTT hc); clear hc | (with_reducible replace hc := tFF hc); clear hc | (have hp := hc; try simp only [decide_eq_true_eq, decide_eq_false_iff_not, bA, bB, bC, bD, bE, bF, bG, bH] at hp))))
    | (refine Kn.go hK ?_; clear hK K)
    | refine Kn.go (by assumption) ?_
    | (intro n hn; (try simp only [upd_none2, join_none_iff, ite_none, ne_eq] at hn); (try simp only [push_cast, seval, *]))
    | (intro hc)
    | fail)
  all_goals (refine ⟨_, _, Weak.less (by (simp only [push_cast, seval, *])), ?_, rfl⟩; first | (with_reducible rfl) | (simp [ownS, wrap_div8]; done) | (simp [*, ownS, wrap_div8]; done) | (congr 2; rw [Bool.eq_iff_iff]; simp [ownS, wrap_div8]; omega; done) | (congr 2; simp [ownS, wrap_div8]; omega; done) | (simp_all [ownS, wrap_div8]; done) | (split <;> simp_all [ownS, wrap_div8]; done) | (simp_all [ownS, wrap_div8] <;> omega))
theorem owner7_p (g w : Int) : Pure Try.prog 114 [.c (.int .i64 g), .c (.int .i64 w)] (.c (.int .i64 (ownS g w))) := by
  intro H
  refine ACall_of' Try.func114 rfl (Ent_of Try.func114 (by kernel_rfl) rfl) (by simp [Try.ntmps114]) ?_; simp only [Try.ntmps114, Try.results114]
  repeat' (first
    | refine AW_seq_kn fun K hK => ?_
    | refine AW_block ?_
    | ((first
      | refine AW_region E0 ?_ | refine AW_ret ?_ | refine AW_exit ?_ | refine AW_skip ?_ | unfold retQ); try simp only [push_cast, seval, *])
    | (apply AW_cond; (case hc => (simp only [push_cast, seval]; rfl)); all_goals (intro hc; first | (exfalso; simp only [push_cast, seval, *] at hc; done) | (exact absurd hc (by decide)) | ((try first | rw [Bool.not_true] at hc | rw [Bool.not_false] at hc); first | (with_reducible replace hc := tTT hc); clear hc | (with_reducible replace hc := tFF hc); clear hc | (have hp := hc; try simp only [decide_eq_true_eq, decide_eq_false_iff_not, bA, bB, bC, bD, bE, bF, bG, bH] at hp))))
    | (refine Kn.go hK ?_; clear hK K)
    | refine Kn.go (by assumption) ?_
    | (intro n hn; (try simp only [upd_none2, join_none_iff, ite_none, ne_eq] at hn); (try simp only [push_cast, seval, *]))
    | (intro hc)
    | fail)
  all_goals (refine ⟨_, _, Weak.less (by (simp only [push_cast, seval, *])), ?_, rfl⟩; first | (with_reducible rfl) | (simp [ownS, wrap_div8]; done) | (simp [*, ownS, wrap_div8]; done) | (congr 2; rw [Bool.eq_iff_iff]; simp [ownS, wrap_div8]; omega; done) | (congr 2; simp [ownS, wrap_div8]; omega; done) | (simp_all [ownS, wrap_div8]; done) | (split <;> simp_all [ownS, wrap_div8]; done) | (simp_all [ownS, wrap_div8] <;> omega))
theorem group7_p (k : Int) : Pure Try.prog 115 [.c (.int .i64 k)] (.c (.int .i64 (k.tmod 8))) := by
  intro H
  refine ACall_of' Try.func115 rfl (Ent_of Try.func115 (by kernel_rfl) rfl) (by simp [Try.ntmps115]) ?_; simp only [Try.ntmps115, Try.results115]
  repeat' (first
    | refine AW_seq_kn fun K hK => ?_
    | refine AW_block ?_
    | ((first
      | refine AW_region E0 ?_ | refine AW_ret ?_ | refine AW_exit ?_ | refine AW_skip ?_ | unfold retQ); try simp only [push_cast, seval, *])
    | (apply AW_cond; (case hc => (simp only [push_cast, seval]; rfl)); all_goals (intro hc; first | (exfalso; simp only [push_cast, seval, *] at hc; done) | (exact absurd hc (by decide)) | ((try first | rw [Bool.not_true] at hc | rw [Bool.not_false] at hc); first | (with_reducible replace hc := tTT hc); clear hc | (with_reducible replace hc := tFF hc); clear hc | (have hp := hc; try simp only [decide_eq_true_eq, decide_eq_false_iff_not, bA, bB, bC, bD, bE, bF, bG, bH] at hp))))
    | (refine Kn.go hK ?_; clear hK K)
    | refine Kn.go (by assumption) ?_
    | (intro n hn; (try simp only [upd_none2, join_none_iff, ite_none, ne_eq] at hn); (try simp only [push_cast, seval, *]))
    | (intro hc)
    | fail)
  all_goals (refine ⟨_, _, Weak.less (by (simp only [push_cast, seval, *])), ?_, rfl⟩; first | (with_reducible rfl) | (simp []; done) | (simp [*]; done) | (congr 2; rw [Bool.eq_iff_iff]; simp []; omega; done) | (congr 2; simp []; omega; done) | (simp_all []; done) | (split <;> simp_all []; done) | (simp_all [] <;> omega))
def shareS (i w : Int) : Bool := widthS w && decide (0 ≤ i) && decide (i < w)
theorem share7_p (i w : Int) : Pure Try.prog 81 [.c (.int .i64 i), .c (.int .i64 w)] (.c (.bool (shareS i w))) := by
  intro H
  refine ACall_of' Try.func81 rfl (Ent_of Try.func81 (by kernel_rfl) rfl) (by simp [Try.ntmps81]) ?_; simp only [Try.ntmps81, Try.results81]
  repeat' (first
    | refine AW_seq_kn fun K hK => ?_
    | refine AW_block ?_
    | ((first
      | refine AW_region E0 ?_ | refine AW_ret ?_ | refine AW_exit ?_ | refine AW_skip ?_ | unfold retQ); try simp only [push_cast, seval, *])
    | ((first | (apply AW_cond; (case hc => (simp only [push_cast, seval]; rfl))) | (apply ER_guard; (case hb => (simp only [push_cast, seval]; rfl)))); all_goals ((intro hc; first | (exfalso; simp only [push_cast, seval, *] at hc; done) | (exact absurd hc (by decide)) | ((try first | rw [Bool.not_true] at hc | rw [Bool.not_false] at hc); first | (with_reducible replace hc := tTT hc); clear hc | (with_reducible replace hc := tFF hc); clear hc | (have hp := hc; try simp only [decide_eq_true_eq, decide_eq_false_iff_not, bA, bB, bC, bD, bE, bF, bG, bH] at hp))) <;> try simp only [push_cast, seval, *]))
    | (refine Kn.go hK ?_; clear hK K)
    | refine Kn.go (by assumption) ?_
    | (intro n hn; (try simp only [upd_none2, join_none_iff, ite_none, ne_eq] at hn); (try simp only [push_cast, seval, *]))
    | (intro hc)
    | (apply ER_blk; (case hp => rfl); (case hb => (simp only [push_cast, seval]; rfl)); (case hd => (simp only [push_cast, seval]; done)); (case h => (intro hc; simp only [push_cast, seval, *]; rfl)); simp only [push_cast, seval, *])
    | fail)
  all_goals (refine ⟨_, _, Weak.less (by (simp only [push_cast, seval, *])), ?_, rfl⟩; first | (with_reducible rfl) | (simp [shareS, widthS]; done) | (simp [*, shareS, widthS]; done) | (congr 2; rw [Bool.eq_iff_iff]; simp [shareS, widthS]; omega; done) | (congr 2; simp [shareS, widthS]; omega; done) | (simp_all [shareS, widthS]; done) | (split <;> simp_all [shareS, widthS]; done) | (simp_all [shareS, widthS] <;> omega))
def ck1 : FuncId → List AV → Option AV
  | 120, [.c (.int .i64 n)] => some (.c (.bool (widthS n)))
  | 76, [.g [.c (.int .i64 s), .c (.int .i64 k), .c (.int .i64 v)]] => some (.c (.int .i64 (if recOk ⟨s, k, v⟩ = true then 0 else 150)))
  | 71, [.g [.c (.int .i64 s), .c (.int .i64 k), .c (.int .i64 v)]] => some (.c (.bool (recOk ⟨s, k, v⟩)))
  | 92, [.c (.int .i64 g), .c (.int .i64 w)] => some (.c (.int .i64 (ownS g w)))
  | 114, [.c (.int .i64 g), .c (.int .i64 w)] => some (.c (.int .i64 (ownS g w)))
  | 115, [.c (.int .i64 k)] => some (.c (.int .i64 (k.tmod 8)))
  | 81, [.c (.int .i64 i), .c (.int .i64 w)] => some (.c (.bool (shareS i w)))
  | _, _ => none
theorem ck1_ok : ∀ f args r, ck1 f args = some r → ACall Try.prog f args (fun _ => none) (fun r' _ => r' = r) := by
  intro f args r h
  unfold ck1 at h
  split at h <;> first | (cases h; done) | (cases h; first | exact (width_p _).cl | exact (check_p _ _ _).cl | exact (right5_p _ _ _).cl | exact (owner_p _ _).cl | exact (owner7_p _ _).cl | exact (group7_p _).cl | exact (share7_p _ _).cl)
def EK1 : Env Try.prog := { E0 with cl := ck1, cl_ok := ck1_ok }
theorem EK1_cl : EK1.cl = ck1 := rfl
theorem EK1_eq : EK1.eq = eqTab := rfl
attribute [push_cast] EK1_cl EK1_eq ck1
theorem share_p (i w : Int) : Pure Try.prog 91 [.c (.int .i64 i), .c (.int .i64 w)] (.c (.bool (shareS i w))) := by
  intro H
  refine ACall_of' Try.func91 rfl (Ent_of Try.func91 (by kernel_rfl) rfl) (by simp [Try.ntmps91]) ?_; simp only [Try.ntmps91, Try.results91]
  repeat' (first
    | refine AW_seq_kn fun K hK => ?_
    | refine AW_block ?_
    | ((first
      | refine AW_region EK1 ?_ | refine AW_ret ?_ | refine AW_exit ?_ | refine AW_skip ?_ | unfold retQ); try simp only [push_cast, seval, *])
    | ((first | (apply AW_cond; (case hc => (simp only [push_cast, seval]; rfl))) | (apply ER_guard; (case hb => (simp only [push_cast, seval]; rfl)))); all_goals ((intro hc; first | (exfalso; simp only [push_cast, seval, *] at hc; done) | (exact absurd hc (by decide)) | ((try first | rw [Bool.not_true] at hc | rw [Bool.not_false] at hc); first | (with_reducible replace hc := tTT hc); clear hc | (with_reducible replace hc := tFF hc); clear hc | (have hp := hc; try simp only [decide_eq_true_eq, decide_eq_false_iff_not, bA, bB, bC, bD, bE, bF, bG, bH] at hp))) <;> try simp only [push_cast, seval, *]))
    | (refine Kn.go hK ?_; clear hK K)
    | refine Kn.go (by assumption) ?_
    | (intro n hn; (try simp only [upd_none2, join_none_iff, ite_none, ne_eq] at hn); (try simp only [push_cast, seval, *]))
    | (intro hc)
    | (apply ER_blk; (case hp => rfl); (case hb => (simp only [push_cast, seval]; rfl)); (case hd => (simp only [push_cast, seval]; done)); (case h => (intro hc; simp only [push_cast, seval, *]; rfl)); simp only [push_cast, seval, *])
    | fail)
  all_goals (refine ⟨_, _, Weak.less (by (simp only [push_cast, seval, *])), ?_, rfl⟩; first | (with_reducible rfl) | (simp [shareS]; done) | (simp [*, shareS]; done) | (congr 2; rw [Bool.eq_iff_iff]; simp [shareS]; omega; done) | (congr 2; simp [shareS]; omega; done) | (simp_all [shareS]; done) | (split <;> simp_all [shareS]; done) | (simp_all [shareS] <;> omega))
theorem group_p (s k v : Int) : Pure Try.prog 90 [.g [.c (.int .i64 s), .c (.int .i64 k), .c (.int .i64 v)]] (.t [.c (.int .i64 (if recOk ⟨s, k, v⟩ = true then k.tmod 8 else 0)), .c (.int .i64 (if recOk ⟨s, k, v⟩ = true then 0 else 150))]) := by
  intro H
  refine ACall_of' Try.func90 rfl (Ent_of Try.func90 (by kernel_rfl) rfl) (by simp [Try.ntmps90]) ?_; simp only [Try.ntmps90, Try.results90]
  repeat' (first
    | refine AW_seq_kn fun K hK => ?_
    | refine AW_block ?_
    | ((first
      | refine AW_region EK1 ?_ | refine AW_ret ?_ | refine AW_exit ?_ | refine AW_skip ?_ | unfold retQ); try simp only [push_cast, seval, *])
    | (apply AW_cond; (case hc => (simp only [push_cast, seval]; rfl)); all_goals (intro hc; first | (exfalso; simp only [push_cast, seval, *] at hc; done) | (exact absurd hc (by decide)) | ((try first | rw [Bool.not_true] at hc | rw [Bool.not_false] at hc); first | (with_reducible replace hc := tTT hc); clear hc | (with_reducible replace hc := tFF hc); clear hc | (have hp := hc; try simp only [decide_eq_true_eq, decide_eq_false_iff_not, bA, bB, bC, bD, bE, bF, bG, bH] at hp))))
    | (refine Kn.go hK ?_; clear hK K)
    | refine Kn.go (by assumption) ?_
    | (intro n hn; (try simp only [upd_none2, join_none_iff, ite_none, ne_eq] at hn); (try simp only [push_cast, seval, *]))
    | (intro hc)
    | fail)
  all_goals (refine ⟨_, _, Weak.less (by (simp only [push_cast, seval, *])), ?_, rfl⟩; first | (with_reducible rfl) | (simp []; done) | (simp [*]; done) | (congr 2; rw [Bool.eq_iff_iff]; simp []; omega; done) | (congr 2; simp []; omega; done) | (simp_all []; done) | (split <;> simp_all []; done) | (simp_all [] <;> omega))
def ck2 : FuncId → List AV → Option AV
  | 91, [.c (.int .i64 i), .c (.int .i64 w)] => some (.c (.bool (shareS i w)))
  | 90, [.g [.c (.int .i64 s), .c (.int .i64 k), .c (.int .i64 v)]] => some (.t [.c (.int .i64 (if recOk ⟨s, k, v⟩ = true then k.tmod 8 else 0)), .c (.int .i64 (if recOk ⟨s, k, v⟩ = true then 0 else 150))])
  | f, l => ck1 f l
theorem ck2_ok : ∀ f args r, ck2 f args = some r → ACall Try.prog f args (fun _ => none) (fun r' _ => r' = r) := by
  intro f args r h
  unfold ck2 at h
  split at h <;> first | exact ck1_ok _ _ _ h | (cases h; first | exact (share_p _ _).cl | exact (group_p _ _ _).cl)
def EK2 : Env Try.prog := { E0 with cl := ck2, cl_ok := ck2_ok }
theorem EK2_cl : EK2.cl = ck2 := rfl
theorem EK2_eq : EK2.eq = eqTab := rfl
attribute [push_cast] EK2_cl EK2_eq ck2
def mineS (r : Rec) (i w : Int) : Bool := recOk r && shareS i w && decide (ownS (r.k.tmod 8) w = i)
theorem mine7_p (s k v i w : Int) : Pure Try.prog 82 [.g [.c (.int .i64 s), .c (.int .i64 k), .c (.int .i64 v)], .c (.int .i64 i), .c (.int .i64 w)] (.c (.bool (mineS ⟨s, k, v⟩ i w))) := by
  intro H
  refine ACall_of' Try.func82 rfl (Ent_of Try.func82 (by kernel_rfl) rfl) (by simp [Try.ntmps82]) ?_; simp only [Try.ntmps82, Try.results82]
  repeat' (first
    | refine AW_seq_kn fun K hK => ?_
    | refine AW_block ?_
    | ((first
      | refine AW_region EK2 ?_ | refine AW_ret ?_ | refine AW_exit ?_ | refine AW_skip ?_ | unfold retQ); try simp only [push_cast, seval, *])
    | ((first | (apply AW_cond; (case hc => (simp only [push_cast, seval]; rfl))) | (apply ER_guard; (case hb => (simp only [push_cast, seval]; rfl)))); all_goals ((intro hc; first | (exfalso; simp only [push_cast, seval, *] at hc; done) | (exact absurd hc (by decide)) | ((try first | rw [Bool.not_true] at hc | rw [Bool.not_false] at hc); first | (with_reducible replace hc := tTT hc); clear hc | (with_reducible replace hc := tFF hc); clear hc | (have hp := hc; try simp only [decide_eq_true_eq, decide_eq_false_iff_not, bA, bB, bC, bD, bE, bF, bG, bH] at hp))) <;> try simp only [push_cast, seval, *]))
    | (refine Kn.go hK ?_; clear hK K)
    | refine Kn.go (by assumption) ?_
    | (intro n hn; (try simp only [upd_none2, join_none_iff, ite_none, ne_eq] at hn); (try simp only [push_cast, seval, *]))
    | (intro hc)
    | (apply ER_blk; (case hp => rfl); (case hb => (simp only [push_cast, seval]; rfl)); (case hd => (simp only [push_cast, seval]; done)); (case h => (intro hc; simp only [push_cast, seval, *]; rfl)); simp only [push_cast, seval, *])
    | fail)
  all_goals (refine ⟨_, _, Weak.less (by (simp only [push_cast, seval, *])), ?_, rfl⟩; first | (with_reducible rfl) | (simp [mineS]; done) | (simp [*, mineS]; done) | (congr 2; rw [Bool.eq_iff_iff]; simp [mineS]; omega; done) | (congr 2; simp [mineS]; omega; done) | (simp_all [mineS]; done) | (split <;> simp_all [mineS]; done) | (simp_all [mineS] <;> omega))
theorem mine_p (s k v i w : Int) : Pure Try.prog 50 [.g [.c (.int .i64 s), .c (.int .i64 k), .c (.int .i64 v)], .c (.int .i64 i), .c (.int .i64 w)] (.c (.bool (mineS ⟨s, k, v⟩ i w))) := by
  intro H
  refine ACall_of' Try.func50 rfl (Ent_of Try.func50 (by kernel_rfl) rfl) (by simp [Try.ntmps50]) ?_; simp only [Try.ntmps50, Try.results50]
  repeat' (first
    | refine AW_seq_kn fun K hK => ?_
    | refine AW_block ?_
    | ((first
      | refine AW_region EK2 ?_ | refine AW_ret ?_ | refine AW_exit ?_ | refine AW_skip ?_ | unfold retQ); try simp only [push_cast, seval, *])
    | ((first | (apply AW_cond; (case hc => (simp only [push_cast, seval]; rfl))) | (apply ER_guard; (case hb => (simp only [push_cast, seval]; rfl)))); all_goals ((intro hc; first | (exfalso; simp only [push_cast, seval, *] at hc; done) | (exact absurd hc (by decide)) | ((try first | rw [Bool.not_true] at hc | rw [Bool.not_false] at hc); first | (with_reducible replace hc := tTT hc); clear hc | (with_reducible replace hc := tFF hc); clear hc | (have hp := hc; try simp only [decide_eq_true_eq, decide_eq_false_iff_not, bA, bB, bC, bD, bE, bF, bG, bH] at hp))) <;> try simp only [push_cast, seval, *]))
    | (refine Kn.go hK ?_; clear hK K)
    | refine Kn.go (by assumption) ?_
    | (intro n hn; (try simp only [upd_none2, join_none_iff, ite_none, ne_eq] at hn); (try simp only [push_cast, seval, *]))
    | (intro hc)
    | (apply ER_blk; (case hp => rfl); (case hb => (simp only [push_cast, seval]; rfl)); (case hd => (simp only [push_cast, seval]; done)); (case h => (intro hc; simp only [push_cast, seval, *]; rfl)); simp only [push_cast, seval, *])
    | fail)
  all_goals (refine ⟨_, _, Weak.less (by (simp only [push_cast, seval, *])), ?_, rfl⟩; first | (with_reducible rfl) | (simp [mineS]; done) | (simp [*, mineS]; done) | (congr 2; rw [Bool.eq_iff_iff]; simp [mineS]; omega; done) | (congr 2; simp [mineS]; omega; done) | (simp_all [mineS]; done) | (split <;> simp_all [mineS]; done) | (simp_all [mineS] <;> omega))
end Go.Proofs.Ytmkncbddjnaklaa
