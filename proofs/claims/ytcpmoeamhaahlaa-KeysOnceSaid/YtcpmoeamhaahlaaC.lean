/- Walks: totals. -/
import Derived.Test.YtcpmoeamhaahlaaB
namespace Go.Proofs.Ytcpmoeamhaahlaa
open Go.RowKit
set_option linter.all false
set_option maxHeartbeats 4000000
attribute [local irreducible] AW Does

attribute [push_cast] Int.toNat_natCast List.getElem?_map Rec.av Int.natCast_nonneg List.length_map
def gr (r : Rec) : Nat := (r.k.tmod 8).toNat
def addG (t : List Int) (r : Rec) : List Int := t.set (gr r) (t.getD (gr r) 0 + 1)
def totS (l : List Rec) : List Int := l.foldl addG (List.replicate 8 0)
theorem totS_take (l : List Rec) (k : Nat) (x : Rec) (h : l[k]? = some x) : totS (l.take (k + 1)) = addG (totS (l.take k)) x := by
  have hk := (List.getElem?_eq_some_iff.1 h)
  obtain ⟨hk, rfl⟩ := hk
  rw [List.take_succ_eq_append_getElem hk, totS, List.foldl_append]; rfl
theorem addG_len (t : List Int) (r : Rec) : (addG t r).length = t.length := by simp [addG]
theorem fold_len : ∀ (l : List Rec) (t : List Int), (l.foldl addG t).length = t.length
  | [], t => rfl
  | r :: l, t => by rw [List.foldl_cons, fold_len l, addG_len]
theorem totS_len (l : List Rec) : (totS l).length = 8 := fold_len l _
theorem fold_bnd : ∀ (l : List Rec) (t : List Int) (m : Int), (∀ x ∈ t, 0 ≤ x ∧ x ≤ m) → ∀ x ∈ l.foldl addG t, 0 ≤ x ∧ x ≤ m + l.length
  | [], t, m, h, x, hx => by have := h x hx; simp; omega
  | r :: l, t, m, h, x, hx => by
    have := fold_bnd l (addG t r) (m + 1) (fun y hy => by
      rcases List.mem_or_eq_of_mem_set hy with h1 | h1
      · have := h y h1; omega
      · by_cases hg : gr r < t.length
        · rw [h1, List.getD_eq_getElem?_getD, List.getElem?_eq_getElem hg]
          have := h _ (List.getElem_mem hg)
          simp; omega
        · have hy' : y ∈ t.set (gr r) (t.getD (gr r) 0 + 1) := hy
          rw [List.set_eq_of_length_le (by omega)] at hy'
          have := h y hy'; omega) x hx
    simp; omega
theorem totS_bnd (l : List Rec) : ∀ x ∈ totS l, 0 ≤ x ∧ x ≤ l.length := fun x hx => by
  have := fold_bnd l (List.replicate 8 0) 0 (fun y hy => by rw [List.eq_of_mem_replicate hy]; omega) x hx
  omega
/-- one cell of a row of numbers is laid anew -/
theorem set_ci (t : List Int) (j : Nat) (v : Int) (h : j < t.length) : (t.map ci).take j ++ [ci v] ++ (t.map ci).drop (j + 1) = (t.set j v).map ci := by
  rw [List.map_set, List.set_eq_take_append_cons_drop, if_pos (by simpa using h)]; simp

theorem total_p (src : Int) (l : List Rec) (hl : l.length ≤ 40) (hr : ∀ r ∈ l, 0 ≤ r.k) : Pure Try.prog 55 [.g [.c (.int .i64 src), .l 3 (l.map Rec.av)]] (.g ((totS l).map ci)) := by
  intro H
  refine ACall_of' Try.func55 rfl (Ent_of Try.func55 (by kernel_rfl) rfl) (by simp [Try.ntmps55]) ?_; simp only [Try.ntmps55, Try.results55]
  repeat' (first
    | refine AW_seq_kn fun K hK => ?_
    | refine AW_block ?_
    | ((first
      | refine AW_region E2 ?_ | refine AW_ret ?_ | refine AW_exit ?_ | refine AW_skip ?_ | unfold retQ); try simp only [push_cast, reduceIte, Nat.reduceEqDiff, Nat.reduceLT, Nat.reduceLeDiff, reduceCtorEq, Nat.reduceAdd, Nat.reduceMul, Nat.reduceSub, Nat.reduceBEq, Int.reduceToNat, Int.reduceLT, Int.reduceLE, Int.reduceEq, *])
    | (apply AW_cond; (case hc => (simp only [push_cast, reduceIte, Nat.reduceEqDiff, Nat.reduceLT, Nat.reduceLeDiff, reduceCtorEq, Nat.reduceAdd, Nat.reduceMul, Nat.reduceSub, Nat.reduceBEq, Int.reduceToNat, Int.reduceLT, Int.reduceLE, Int.reduceEq]; rfl)); all_goals (intro hc; first | (exfalso; simp only [push_cast, reduceIte, Nat.reduceEqDiff, Nat.reduceLT, Nat.reduceLeDiff, reduceCtorEq, Nat.reduceAdd, Nat.reduceMul, Nat.reduceSub, Nat.reduceBEq, Int.reduceToNat, Int.reduceLT, Int.reduceLE, Int.reduceEq, *] at hc; done) | (with_reducible (have hcc : true = true := hc); clear hcc hc) | (with_reducible (have hcc : false = false := hc); clear hcc hc) | ((try simp only [Bool.not_true, Bool.not_false] at hc); (first | (with_reducible (have hcc : true = true := hc); clear hcc hc) | (with_reducible (have hcc : false = false := hc); clear hcc hc) | (have hp := hc; (try simp only [decide_eq_true_eq, decide_eq_false_iff_not, Bool.and_eq_true, Bool.or_eq_true, Bool.or_eq_false_iff, Bool.and_eq_false_iff, Bool.not_eq_true', Bool.not_eq_false', Bool.not_true, Bool.not_false] at hp))))))
    | (refine Kn.go hK ?_; clear hK K)
    | refine Kn.go (by assumption) ?_
    | (intro n hn; (try simp only [upd_none2, join_none_iff, ite_none, ne_eq] at hn); (try simp only [push_cast, reduceIte, Nat.reduceEqDiff, Nat.reduceLT, Nat.reduceLeDiff, reduceCtorEq, Nat.reduceAdd, Nat.reduceMul, Nat.reduceSub, Nat.reduceBEq, Int.reduceToNat, Int.reduceLT, Int.reduceLE, Int.reduceEq, *]))
    | (intro hc)
    | fail)
  rename_i n1 h1 n2 h2
  refine AW_loopS (fun k : Nat => k ≤ l.length) (fun k => [(2, .p n2 8 0 0), (3, .p n 8 0 0), (7, .l 3 (l.map Rec.av)), (8, .c (.int .i64 l.length)), (9, .c (.int .i64 k))]) (fun k => upd (upd H n2 (.r 30 8 1 [List.replicate 8 (ci 0)])) n (.r 30 8 1 [(totS (l.take k)).map ci])) (fun k => l.length - k) 0 (Nat.zero_le _) ?_ ?_ ?_
  · simp only [push_cast, reduceIte, Nat.reduceEqDiff, Nat.reduceLT, Nat.reduceLeDiff, reduceCtorEq, Nat.reduceAdd, Nat.reduceMul, Nat.reduceSub, Nat.reduceBEq, Int.reduceToNat, Int.reduceLT, Int.reduceLE, Int.reduceEq, *]
  · have e0 : totS [] = [0, 0, 0, 0, 0, 0, 0, 0] := rfl
    (first | trivial | ((simp only [push_cast, reduceIte, Nat.reduceEqDiff, Nat.reduceLT, Nat.reduceLeDiff, reduceCtorEq, Nat.reduceAdd, Nat.reduceMul, Nat.reduceSub, Nat.reduceBEq, Int.reduceToNat, Int.reduceLT, Int.reduceLE, Int.reduceEq, *]); repeat' (first | rfl | exact Heap.le_refl _ | refine And.intro ?_ ?_)))
  · intro k hk
    by_cases hlt : k < l.length
    · have hx := List.getElem?_eq_getElem hlt
      generalize l[k] = x at hx
      have hxm := List.mem_of_getElem? hx
      have hk0 : 0 ≤ x.k.tmod 8 := by have := hr x hxm; exact Int.tmod_nonneg 8 this
      have hk8 : x.k.tmod 8 < 8 := Int.tmod_lt_of_pos _ (by omega)
      have hlen := totS_len (l.take k)
      have hj : (x.k.tmod 8).toNat + 1 ≤ 8 := by omega
      have hlt' : (k : Int) < l.length := by omega
      obtain ⟨y, hy⟩ : ∃ y, (totS (l.take k))[(x.k.tmod 8).toNat]? = some y := ⟨_, List.getElem?_eq_getElem (by omega)⟩
      have hyb := totS_bnd _ y (List.mem_of_getElem? hy)
      have hw : IntKind.i64.wrap (y + 1) = y + 1 := by
        have : (l.take k).length ≤ 40 := by simp; omega
        exact wrap_i64 (by omega) (by omega)
      have hwk : IntKind.i64.wrap ((k : Int) + 1) = (k : Int) + 1 := wrap_i64 (by omega) (by omega)
      repeat' (first
    | refine AW_seq_kn fun K hK => ?_
    | refine AW_block ?_
    | ((first
      | refine AW_region E2 ?_ | refine AW_ret ?_ | refine AW_exit ?_ | refine AW_skip ?_ | unfold retQ); try simp only [push_cast, reduceIte, Nat.reduceEqDiff, Nat.reduceLT, Nat.reduceLeDiff, reduceCtorEq, Nat.reduceAdd, Nat.reduceMul, Nat.reduceSub, Nat.reduceBEq, Int.reduceToNat, Int.reduceLT, Int.reduceLE, Int.reduceEq, *])
    | (apply AW_cond; (case hc => (simp only [push_cast, reduceIte, Nat.reduceEqDiff, Nat.reduceLT, Nat.reduceLeDiff, reduceCtorEq, Nat.reduceAdd, Nat.reduceMul, Nat.reduceSub, Nat.reduceBEq, Int.reduceToNat, Int.reduceLT, Int.reduceLE, Int.reduceEq]; rfl)); all_goals (intro hc; first | (exfalso; simp only [push_cast, reduceIte, Nat.reduceEqDiff, Nat.reduceLT, Nat.reduceLeDiff, reduceCtorEq, Nat.reduceAdd, Nat.reduceMul, Nat.reduceSub, Nat.reduceBEq, Int.reduceToNat, Int.reduceLT, Int.reduceLE, Int.reduceEq, *] at hc; done) | (with_reducible (have hcc : true = true := hc); clear hcc hc) | (with_reducible (have hcc : false = false := hc); clear hcc hc) | ((try simp only [Bool.not_true, Bool.not_false] at hc); (first | (with_reducible (have hcc : true = true := hc); clear hcc hc) | (with_reducible (have hcc : false = false := hc); clear hcc hc) | (have hp := hc; (try simp only [decide_eq_true_eq, decide_eq_false_iff_not, Bool.and_eq_true, Bool.or_eq_true, Bool.or_eq_false_iff, Bool.and_eq_false_iff, Bool.not_eq_true', Bool.not_eq_false', Bool.not_true, Bool.not_false] at hp))))))
    | (refine Kn.go hK ?_; clear hK K)
    | refine Kn.go (by assumption) ?_
    | (intro n hn; (try simp only [upd_none2, join_none_iff, ite_none, ne_eq] at hn); (try simp only [push_cast, reduceIte, Nat.reduceEqDiff, Nat.reduceLT, Nat.reduceLeDiff, reduceCtorEq, Nat.reduceAdd, Nat.reduceMul, Nat.reduceSub, Nat.reduceBEq, Int.reduceToNat, Int.reduceLT, Int.reduceLE, Int.reduceEq, *]))
    | (intro hc)
    | fail)
      refine ⟨k + 1, by omega, by simp only [push_cast, reduceIte, Nat.reduceEqDiff, Nat.reduceLT, Nat.reduceLeDiff, reduceCtorEq, Nat.reduceAdd, Nat.reduceMul, Nat.reduceSub, Nat.reduceBEq, Int.reduceToNat, Int.reduceLT, Int.reduceLE, Int.reduceEq, *], ?_, by omega⟩
      have e := set_ci (totS (l.take k)) (gr x) (y + 1) (by simp only [gr]; omega)
      rw [totS_take l k x hx, addG, List.getD_eq_getElem?_getD, show (totS (l.take k))[gr x]? = some y from hy, Option.getD_some, ← e]
      simp only [gr, push_cast, reduceIte, Nat.reduceEqDiff, Nat.reduceLT, Nat.reduceLeDiff, reduceCtorEq, Nat.reduceAdd, Nat.reduceMul, Nat.reduceSub, Nat.reduceBEq, Int.reduceToNat, Int.reduceLT, Int.reduceLE, Int.reduceEq, *]
    · have hlt' : ¬ (k : Int) < l.length := by omega
      obtain rfl : k = l.length := by omega
      have ht : List.take l.length l = l := List.take_length
      have hlen := totS_len l
      have htk : List.take 8 (List.map ci (totS l)) = List.map ci (totS l) := List.take_of_length_le (by simp; omega)
      repeat' (first
    | refine AW_seq_kn fun K hK => ?_
    | refine AW_block ?_
    | ((first
      | refine AW_region E2 ?_ | refine AW_ret ?_ | refine AW_exit ?_ | refine AW_skip ?_ | unfold retQ); try simp only [push_cast, reduceIte, Nat.reduceEqDiff, Nat.reduceLT, Nat.reduceLeDiff, reduceCtorEq, Nat.reduceAdd, Nat.reduceMul, Nat.reduceSub, Nat.reduceBEq, Int.reduceToNat, Int.reduceLT, Int.reduceLE, Int.reduceEq, *])
    | (apply AW_cond; (case hc => (simp only [push_cast, reduceIte, Nat.reduceEqDiff, Nat.reduceLT, Nat.reduceLeDiff, reduceCtorEq, Nat.reduceAdd, Nat.reduceMul, Nat.reduceSub, Nat.reduceBEq, Int.reduceToNat, Int.reduceLT, Int.reduceLE, Int.reduceEq]; rfl)); all_goals (intro hc; first | (exfalso; simp only [push_cast, reduceIte, Nat.reduceEqDiff, Nat.reduceLT, Nat.reduceLeDiff, reduceCtorEq, Nat.reduceAdd, Nat.reduceMul, Nat.reduceSub, Nat.reduceBEq, Int.reduceToNat, Int.reduceLT, Int.reduceLE, Int.reduceEq, *] at hc; done) | (with_reducible (have hcc : true = true := hc); clear hcc hc) | (with_reducible (have hcc : false = false := hc); clear hcc hc) | ((try simp only [Bool.not_true, Bool.not_false] at hc); (first | (with_reducible (have hcc : true = true := hc); clear hcc hc) | (with_reducible (have hcc : false = false := hc); clear hcc hc) | (have hp := hc; (try simp only [decide_eq_true_eq, decide_eq_false_iff_not, Bool.and_eq_true, Bool.or_eq_true, Bool.or_eq_false_iff, Bool.and_eq_false_iff, Bool.not_eq_true', Bool.not_eq_false', Bool.not_true, Bool.not_false] at hp))))))
    | (refine Kn.go hK ?_; clear hK K)
    | refine Kn.go (by assumption) ?_
    | (intro n hn; (try simp only [upd_none2, join_none_iff, ite_none, ne_eq] at hn); (try simp only [push_cast, reduceIte, Nat.reduceEqDiff, Nat.reduceLT, Nat.reduceLeDiff, reduceCtorEq, Nat.reduceAdd, Nat.reduceMul, Nat.reduceSub, Nat.reduceBEq, Int.reduceToNat, Int.reduceLT, Int.reduceLE, Int.reduceEq, *]))
    | (intro hc)
    | fail)
      (refine ⟨_, _, Weak.less (by (simp only [push_cast, reduceIte, Nat.reduceEqDiff, Nat.reduceLT, Nat.reduceLeDiff, reduceCtorEq, Nat.reduceAdd, Nat.reduceMul, Nat.reduceSub, Nat.reduceBEq, Int.reduceToNat, Int.reduceLT, Int.reduceLE, Int.reduceEq, *])), ?_, rfl⟩; first | rfl | (simp []; done) | (simp [*]; done) | (congr 2; rw [Bool.eq_iff_iff]; simp []; omega; done) | (congr 2; simp []; omega; done) | (simp_all []; done) | (split <;> simp_all []; done) | (simp_all [] <;> omega))
end Go.Proofs.Ytcpmoeamhaahlaa
