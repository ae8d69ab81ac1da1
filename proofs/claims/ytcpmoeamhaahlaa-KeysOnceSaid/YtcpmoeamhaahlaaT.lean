/- Walks: somebody reads. -/
import Derived.Test.YtcpmoeamhaahlaaS
namespace Go.Proofs.Ytcpmoeamhaahlaa
open Go.RowKit
set_option linter.all false
set_option maxHeartbeats 4000000
attribute [local irreducible] AW Does

structure Nos where
  H : Heap
  nx : Nat
  no : Nat
  nt : Nat
  nw : Nat
structure Nos.Ok (b : Nos) : Prop where
  x : b.H b.nx = none
  o : b.H b.no = none
  t : b.H b.nt = none
  w : b.H b.nw = none
  xo : b.nx ≠ b.no
  xt : b.nx ≠ b.nt
  xw : b.nx ≠ b.nw
  ot : b.no ≠ b.nt
  ow : b.no ≠ b.nw
  tw : b.nt ≠ b.nw
def Nos.hp (b : Nos) (src : Int) (l : List Rec) (o : List Int) (w : Int) (y : AV) : Heap := fun m =>
  if m = b.nx then some (.r 24 2 1 [[.c (.int .i64 src), .l 3 (l.map Rec.av)]])
  else if m = b.no then some (.r 30 8 1 [o.map ci])
  else if m = b.nt then some (.r 22 1 1 [[y]])
  else if m = b.nw then some (.r 3 1 1 [[.c (.int .i64 w)]]) else b.H m
theorem Nos.gx (b : Nos) (src : Int) (l : List Rec) (o : List Int) (w : Int) (y : AV) : b.hp src l o w y b.nx = some (.r 24 2 1 [[.c (.int .i64 src), .l 3 (l.map Rec.av)]]) := by simp [Nos.hp]
theorem Nos.go {b : Nos} (h : b.Ok) (src : Int) (l : List Rec) (o : List Int) (w : Int) (y : AV) : b.hp src l o w y b.no = some (.r 30 8 1 [o.map ci]) := by simp [Nos.hp, Ne.symm h.xo]
theorem Nos.gt {b : Nos} (h : b.Ok) (src : Int) (l : List Rec) (o : List Int) (w : Int) (y : AV) : b.hp src l o w y b.nt = some (.r 22 1 1 [[y]]) := by simp [Nos.hp, Ne.symm h.xt, Ne.symm h.ot]
theorem Nos.gw {b : Nos} (h : b.Ok) (src : Int) (l : List Rec) (o : List Int) (w : Int) (y : AV) : b.hp src l o w y b.nw = some (.r 3 1 1 [[.c (.int .i64 w)]]) := by simp [Nos.hp, Ne.symm h.xw, Ne.symm h.ow, Ne.symm h.tw]
theorem Nos.seto {b : Nos} (h : b.Ok) (src : Int) (l : List Rec) (o o' : List Int) (w : Int) (y : AV) : upd (b.hp src l o w y) b.no (.r 30 8 1 [o'.map ci]) = b.hp src l o' w y := by
  funext m; simp only [upd_get, Nos.hp]
  by_cases e : m = b.no
  · subst e; simp [Ne.symm h.xo]
  · simp [e]
theorem Nos.sett {b : Nos} (h : b.Ok) (src : Int) (l : List Rec) (o : List Int) (w : Int) (y y' : AV) : upd (b.hp src l o w y) b.nt (.r 22 1 1 [[y']]) = b.hp src l o w y' := by
  funext m; simp only [upd_get, Nos.hp]
  by_cases e : m = b.nt
  · subst e; simp [Ne.symm h.xt, Ne.symm h.ot]
  · simp [e]
theorem Nos.setw {b : Nos} (h : b.Ok) (src : Int) (l : List Rec) (o : List Int) (w w' : Int) (y : AV) : upd (b.hp src l o w y) b.nw (.r 3 1 1 [[.c (.int .i64 w')]]) = b.hp src l o w' y := by
  funext m; simp only [upd_get, Nos.hp]
  by_cases e : m = b.nw
  · subst e; simp [Ne.symm h.xw, Ne.symm h.ow, Ne.symm h.tw]
  · simp [e]
theorem upd_swap (H : Heap) {m n : Nat} (h : m ≠ n) (k k' : Blk) : upd (upd H m k) n k' = upd (upd H n k') m k := by
  funext q; simp only [upd_get]
  by_cases e1 : q = n <;> by_cases e2 : q = m <;> simp_all
theorem del_upd_swap (H : Heap) {m n : Nat} (h : m ≠ n) (k : Blk) : del (upd H m k) n = upd (del H n) m k := by
  funext q; simp only [upd_get, del_get]
  by_cases e1 : q = n <;> by_cases e2 : q = m <;> simp_all
theorem hle_upd2 {B B' : Heap} (h : Heap.le B B') (n : Nat) (k : Blk) : Heap.le (upd B n k) (upd B' n k) := fun m x hm => by
  by_cases e : m = n
  · subst e; rw [upd_same] at hm ⊢; exact hm
  · rw [upd_ne e] at hm ⊢; exact h m x hm
theorem del_two {h : Heap} {n1 n2 a b : Nat} {R O T U : Blk} (h1 : h n1 = none) (h2 : h n2 = none) (a1 : a ≠ n1) (a2 : a ≠ n2) (b1 : b ≠ n1) (b2 : b ≠ n2) :
    del (del (upd (upd (upd (upd h n1 R) n2 O) a T) b U) n2) n1 = upd (upd h a T) b U := by
  funext q
  simp only [del_get, upd_get]
  by_cases e1 : q = n1
  · subst e1; simp [Ne.symm b1, Ne.symm a1, h1]
  · by_cases e2 : q = n2
    · subst e2; simp [e1, Ne.symm b2, Ne.symm a2, h2]
    · simp [e1, e2]
def nextO (o : List Int) (l : List Rec) (i w : Int) : List Int := match nextS o l i w with | some r => addG o r | none => o
def nextT (o : List Int) (l : List Rec) (i w : Int) (out : List Rec) : List Rec := match nextS o l i w with | some r => out ++ [r] | none => out
theorem read_a {b : Nos} (hb : b.Ok) (src : Int) (l : List Rec) (o : List Int) (out : List Rec) (W i : Nat) (hin : inOk src l = true) (ho : Once l o out) (hW : W = 1 ∨ W = 2 ∨ W = 3) (hi : i < W) (y : AV) (B : Heap)
    (hown : OwnL B y 32 3 (out.map Rec.av) (b.hp src l o W y)) :
    ACall Try.prog 14 [ci i, .p b.nx 2 0 0, .p b.no 8 0 0, .p b.nw 1 0 0, .p b.nt 1 0 0] B fun r B' => r = .c (.bool true) ∧ ∃ y', OwnL B' y' 32 3 ((nextT o l i W out).map Rec.av) (b.hp src l (nextO o l i W) W y') := by
  have h40 := inOk_len hin
  have hl : l.length ≤ maxLen := by unfold maxLen; omega
  have hlen := ho.len
  have hask : askErr src l o i W = 0 := by unfold askErr; rw [ho.off hin, share_lt hi hW]; rfl
  have hol := ho.le
  have kx := hown.get (Nos.gx b src l o W y)
  have ko := hown.get (Nos.go hb src l o W y)
  have kt := hown.get (Nos.gt hb src l o W y)
  have kw := hown.get (Nos.gw hb src l o W y)
  have nx := ne_old kx
  have no := ne_old ko
  have nt := ne_old kt
  have nw := ne_old kw
  have hcs := hown.cs
  have d1 := hb.xo
  have d2 := hb.xt
  have d3 := hb.xw
  have d4 := hb.ot
  have d5 := hb.ow
  have d6 := hb.tw
  cases hnx : nextS o l i W with
  | none =>
    have hr : readS src l o i W = o := by unfold readS; rw [if_pos hask, hnx]
    refine ACall_of' Try.func14 rfl (Ent_of Try.func14 (by kernel_rfl) rfl) (by simp [Try.ntmps14]) ?_; simp only [Try.ntmps14, Try.results14]
    repeat' (first
    | refine AW_seq_kn fun K hK => ?_
    | refine AW_block ?_
    | (refine does_call rfl rfl ?_; simp only [push_cast, reduceIte, Nat.reduceEqDiff, Nat.reduceLT, Nat.reduceLeDiff, reduceCtorEq, Nat.reduceAdd, Nat.reduceMul, Nat.reduceSub, Nat.reduceBEq, Int.reduceToNat, Int.reduceLT, Int.reduceLE, Int.reduceEq, *]; refine ACall.mono (Next_p _ _ _ _ _ (by assumption) (by assumption) _) ?_; (rintro _ _ ⟨rfl, e2⟩; have e3 := e2.symm; clear e2; subst e3); (try simp only [push_cast, reduceIte, Nat.reduceEqDiff, Nat.reduceLT, Nat.reduceLeDiff, reduceCtorEq, Nat.reduceAdd, Nat.reduceMul, Nat.reduceSub, Nat.reduceBEq, Int.reduceToNat, Int.reduceLT, Int.reduceLE, Int.reduceEq, *]))
    | (refine does_call rfl rfl ?_; simp only [push_cast, reduceIte, Nat.reduceEqDiff, Nat.reduceLT, Nat.reduceLeDiff, reduceCtorEq, Nat.reduceAdd, Nat.reduceMul, Nat.reduceSub, Nat.reduceBEq, Int.reduceToNat, Int.reduceLT, Int.reduceLE, Int.reduceEq, *]; refine ACall.mono (Read_p _ _ _ _ _ (by assumption) (by assumption) _) ?_; (rintro _ _ ⟨rfl, e2⟩; have e3 := e2.symm; clear e2; subst e3); (try simp only [push_cast, reduceIte, Nat.reduceEqDiff, Nat.reduceLT, Nat.reduceLeDiff, reduceCtorEq, Nat.reduceAdd, Nat.reduceMul, Nat.reduceSub, Nat.reduceBEq, Int.reduceToNat, Int.reduceLT, Int.reduceLE, Int.reduceEq, *]))
    | ((first
      | refine AW_region E2 ?_ | refine AW_ret ?_ | refine AW_exit ?_ | refine AW_skip ?_ | unfold retQ); try simp only [push_cast, reduceIte, Nat.reduceEqDiff, Nat.reduceLT, Nat.reduceLeDiff, reduceCtorEq, Nat.reduceAdd, Nat.reduceMul, Nat.reduceSub, Nat.reduceBEq, Int.reduceToNat, Int.reduceLT, Int.reduceLE, Int.reduceEq, *])
    | (apply AW_cond; (case hc => (simp only [push_cast, reduceIte, Nat.reduceEqDiff, Nat.reduceLT, Nat.reduceLeDiff, reduceCtorEq, Nat.reduceAdd, Nat.reduceMul, Nat.reduceSub, Nat.reduceBEq, Int.reduceToNat, Int.reduceLT, Int.reduceLE, Int.reduceEq]; rfl)); all_goals (intro hc; first | (exfalso; simp only [push_cast, reduceIte, Nat.reduceEqDiff, Nat.reduceLT, Nat.reduceLeDiff, reduceCtorEq, Nat.reduceAdd, Nat.reduceMul, Nat.reduceSub, Nat.reduceBEq, Int.reduceToNat, Int.reduceLT, Int.reduceLE, Int.reduceEq, *] at hc; done) | (with_reducible (have hcc : true = true := hc); clear hcc hc) | (with_reducible (have hcc : false = false := hc); clear hcc hc) | ((try simp only [Bool.not_true, Bool.not_false] at hc); (first | (with_reducible (have hcc : true = true := hc); clear hcc hc) | (with_reducible (have hcc : false = false := hc); clear hcc hc) | (have hp := hc; (try simp only [decide_eq_true_eq, decide_eq_false_iff_not, Bool.and_eq_true, Bool.or_eq_true, Bool.or_eq_false_iff, Bool.and_eq_false_iff, Bool.not_eq_true', Bool.not_eq_false', Bool.not_true, Bool.not_false] at hp))))))
    | (refine Kn.go hK ?_; clear hK K)
    | refine Kn.go (by assumption) ?_
    | (intro n hn; (try simp only [upd_none2, join_none_iff, ite_none, ne_eq] at hn); (try simp only [push_cast, reduceIte, Nat.reduceEqDiff, Nat.reduceLT, Nat.reduceLeDiff, reduceCtorEq, Nat.reduceAdd, Nat.reduceMul, Nat.reduceSub, Nat.reduceBEq, Int.reduceToNat, Int.reduceLT, Int.reduceLE, Int.reduceEq, *]))
    | (intro hc)
    | (apply ER_blk; (case hp => rfl); (case hb => (simp only [push_cast, reduceIte, Nat.reduceEqDiff, Nat.reduceLT, Nat.reduceLeDiff, reduceCtorEq, Nat.reduceAdd, Nat.reduceMul, Nat.reduceSub, Nat.reduceBEq, Int.reduceToNat, Int.reduceLT, Int.reduceLE, Int.reduceEq]; rfl)); (case hd => (simp only [push_cast, reduceIte, Nat.reduceEqDiff, Nat.reduceLT, Nat.reduceLeDiff, reduceCtorEq, Nat.reduceAdd, Nat.reduceMul, Nat.reduceSub, Nat.reduceBEq, Int.reduceToNat, Int.reduceLT, Int.reduceLE, Int.reduceEq]; done)); (case h => (intro hc; simp only [push_cast, reduceIte, Nat.reduceEqDiff, Nat.reduceLT, Nat.reduceLeDiff, reduceCtorEq, Nat.reduceAdd, Nat.reduceMul, Nat.reduceSub, Nat.reduceBEq, Int.reduceToNat, Int.reduceLT, Int.reduceLE, Int.reduceEq, *]; rfl)); simp only [push_cast, reduceIte, Nat.reduceEqDiff, Nat.reduceLT, Nat.reduceLeDiff, reduceCtorEq, Nat.reduceAdd, Nat.reduceMul, Nat.reduceSub, Nat.reduceBEq, Int.reduceToNat, Int.reduceLT, Int.reduceLE, Int.reduceEq, *])
    | (apply ER_guard; (case hb => (simp only [push_cast, reduceIte, Nat.reduceEqDiff, Nat.reduceLT, Nat.reduceLeDiff, reduceCtorEq, Nat.reduceAdd, Nat.reduceMul, Nat.reduceSub, Nat.reduceBEq, Int.reduceToNat, Int.reduceLT, Int.reduceLE, Int.reduceEq]; rfl)); all_goals ((intro hc; first | (exfalso; simp only [push_cast, reduceIte, Nat.reduceEqDiff, Nat.reduceLT, Nat.reduceLeDiff, reduceCtorEq, Nat.reduceAdd, Nat.reduceMul, Nat.reduceSub, Nat.reduceBEq, Int.reduceToNat, Int.reduceLT, Int.reduceLE, Int.reduceEq, *] at hc; done) | (with_reducible (have hcc : true = true := hc); clear hcc hc) | (with_reducible (have hcc : false = false := hc); clear hcc hc) | ((try simp only [Bool.not_true, Bool.not_false] at hc); (first | (with_reducible (have hcc : true = true := hc); clear hcc hc) | (with_reducible (have hcc : false = false := hc); clear hcc hc) | (have hp := hc; (try simp only [decide_eq_true_eq, decide_eq_false_iff_not, Bool.and_eq_true, Bool.or_eq_true, Bool.or_eq_false_iff, Bool.and_eq_false_iff, Bool.not_eq_true', Bool.not_eq_false', Bool.not_true, Bool.not_false] at hp))))) <;> try simp only [push_cast, reduceIte, Nat.reduceEqDiff, Nat.reduceLT, Nat.reduceLeDiff, reduceCtorEq, Nat.reduceAdd, Nat.reduceMul, Nat.reduceSub, Nat.reduceBEq, Int.reduceToNat, Int.reduceLT, Int.reduceLE, Int.reduceEq, *]))
    | fail)
    have e1 : nextO o l i W = o := by unfold nextO; rw [hnx]
    have e2 : nextT o l i W out = out := by unfold nextT; rw [hnx]
    rw [e1, e2]
    have h5 := hown.turn ((Nos.go hb src l o W y)) (.r 30 8 1 [o.map ci])
    rw [Nos.seto hb] at h5
    exact ⟨_, upd B b.no (.r 30 8 1 [o.map ci]), Weak.less (hle_upd2 (by (simp only [push_cast, reduceIte, Nat.reduceEqDiff, Nat.reduceLT, Nat.reduceLeDiff, reduceCtorEq, Nat.reduceAdd, Nat.reduceMul, Nat.reduceSub, Nat.reduceBEq, Int.reduceToNat, Int.reduceLT, Int.reduceLE, Int.reduceEq, *])) _ _), rfl, y, h5⟩
  | some r =>
    have hr : readS src l o i W = addG o r := by unfold readS; rw [if_pos hask, hnx]
    have hlen2 : (addG o r).length = 8 := by rw [addG_len, hlen]
    refine ACall_of' Try.func14 rfl (Ent_of Try.func14 (by kernel_rfl) rfl) (by simp [Try.ntmps14]) ?_; simp only [Try.ntmps14, Try.results14]
    repeat' (first
    | refine AW_seq_kn fun K hK => ?_
    | refine AW_block ?_
    | (refine does_call rfl rfl ?_; simp only [push_cast, reduceIte, Nat.reduceEqDiff, Nat.reduceLT, Nat.reduceLeDiff, reduceCtorEq, Nat.reduceAdd, Nat.reduceMul, Nat.reduceSub, Nat.reduceBEq, Int.reduceToNat, Int.reduceLT, Int.reduceLE, Int.reduceEq, *]; refine ACall.mono (Next_p _ _ _ _ _ (by assumption) (by assumption) _) ?_; (rintro _ _ ⟨rfl, e2⟩; have e3 := e2.symm; clear e2; subst e3); (try simp only [push_cast, reduceIte, Nat.reduceEqDiff, Nat.reduceLT, Nat.reduceLeDiff, reduceCtorEq, Nat.reduceAdd, Nat.reduceMul, Nat.reduceSub, Nat.reduceBEq, Int.reduceToNat, Int.reduceLT, Int.reduceLE, Int.reduceEq, *]))
    | (refine does_call rfl rfl ?_; simp only [push_cast, reduceIte, Nat.reduceEqDiff, Nat.reduceLT, Nat.reduceLeDiff, reduceCtorEq, Nat.reduceAdd, Nat.reduceMul, Nat.reduceSub, Nat.reduceBEq, Int.reduceToNat, Int.reduceLT, Int.reduceLE, Int.reduceEq, *]; refine ACall.mono (Read_p _ _ _ _ _ (by assumption) (by assumption) _) ?_; (rintro _ _ ⟨rfl, e2⟩; have e3 := e2.symm; clear e2; subst e3); (try simp only [push_cast, reduceIte, Nat.reduceEqDiff, Nat.reduceLT, Nat.reduceLeDiff, reduceCtorEq, Nat.reduceAdd, Nat.reduceMul, Nat.reduceSub, Nat.reduceBEq, Int.reduceToNat, Int.reduceLT, Int.reduceLE, Int.reduceEq, *]))
    | ((first
      | refine AW_region E2 ?_ | refine AW_ret ?_ | refine AW_exit ?_ | refine AW_skip ?_ | unfold retQ); try simp only [push_cast, reduceIte, Nat.reduceEqDiff, Nat.reduceLT, Nat.reduceLeDiff, reduceCtorEq, Nat.reduceAdd, Nat.reduceMul, Nat.reduceSub, Nat.reduceBEq, Int.reduceToNat, Int.reduceLT, Int.reduceLE, Int.reduceEq, *])
    | (apply AW_cond; (case hc => (simp only [push_cast, reduceIte, Nat.reduceEqDiff, Nat.reduceLT, Nat.reduceLeDiff, reduceCtorEq, Nat.reduceAdd, Nat.reduceMul, Nat.reduceSub, Nat.reduceBEq, Int.reduceToNat, Int.reduceLT, Int.reduceLE, Int.reduceEq]; rfl)); all_goals (intro hc; first | (exfalso; simp only [push_cast, reduceIte, Nat.reduceEqDiff, Nat.reduceLT, Nat.reduceLeDiff, reduceCtorEq, Nat.reduceAdd, Nat.reduceMul, Nat.reduceSub, Nat.reduceBEq, Int.reduceToNat, Int.reduceLT, Int.reduceLE, Int.reduceEq, *] at hc; done) | (with_reducible (have hcc : true = true := hc); clear hcc hc) | (with_reducible (have hcc : false = false := hc); clear hcc hc) | ((try simp only [Bool.not_true, Bool.not_false] at hc); (first | (with_reducible (have hcc : true = true := hc); clear hcc hc) | (with_reducible (have hcc : false = false := hc); clear hcc hc) | (have hp := hc; (try simp only [decide_eq_true_eq, decide_eq_false_iff_not, Bool.and_eq_true, Bool.or_eq_true, Bool.or_eq_false_iff, Bool.and_eq_false_iff, Bool.not_eq_true', Bool.not_eq_false', Bool.not_true, Bool.not_false] at hp))))))
    | (refine Kn.go hK ?_; clear hK K)
    | refine Kn.go (by assumption) ?_
    | (intro n hn; (try simp only [upd_none2, join_none_iff, ite_none, ne_eq] at hn); (try simp only [push_cast, reduceIte, Nat.reduceEqDiff, Nat.reduceLT, Nat.reduceLeDiff, reduceCtorEq, Nat.reduceAdd, Nat.reduceMul, Nat.reduceSub, Nat.reduceBEq, Int.reduceToNat, Int.reduceLT, Int.reduceLE, Int.reduceEq, *]))
    | (intro hc)
    | (apply ER_blk; (case hp => rfl); (case hb => (simp only [push_cast, reduceIte, Nat.reduceEqDiff, Nat.reduceLT, Nat.reduceLeDiff, reduceCtorEq, Nat.reduceAdd, Nat.reduceMul, Nat.reduceSub, Nat.reduceBEq, Int.reduceToNat, Int.reduceLT, Int.reduceLE, Int.reduceEq]; rfl)); (case hd => (simp only [push_cast, reduceIte, Nat.reduceEqDiff, Nat.reduceLT, Nat.reduceLeDiff, reduceCtorEq, Nat.reduceAdd, Nat.reduceMul, Nat.reduceSub, Nat.reduceBEq, Int.reduceToNat, Int.reduceLT, Int.reduceLE, Int.reduceEq]; done)); (case h => (intro hc; simp only [push_cast, reduceIte, Nat.reduceEqDiff, Nat.reduceLT, Nat.reduceLeDiff, reduceCtorEq, Nat.reduceAdd, Nat.reduceMul, Nat.reduceSub, Nat.reduceBEq, Int.reduceToNat, Int.reduceLT, Int.reduceLE, Int.reduceEq, *]; rfl)); simp only [push_cast, reduceIte, Nat.reduceEqDiff, Nat.reduceLT, Nat.reduceLeDiff, reduceCtorEq, Nat.reduceAdd, Nat.reduceMul, Nat.reduceSub, Nat.reduceBEq, Int.reduceToNat, Int.reduceLT, Int.reduceLE, Int.reduceEq, *])
    | (apply ER_guard; (case hb => (simp only [push_cast, reduceIte, Nat.reduceEqDiff, Nat.reduceLT, Nat.reduceLeDiff, reduceCtorEq, Nat.reduceAdd, Nat.reduceMul, Nat.reduceSub, Nat.reduceBEq, Int.reduceToNat, Int.reduceLT, Int.reduceLE, Int.reduceEq]; rfl)); all_goals ((intro hc; first | (exfalso; simp only [push_cast, reduceIte, Nat.reduceEqDiff, Nat.reduceLT, Nat.reduceLeDiff, reduceCtorEq, Nat.reduceAdd, Nat.reduceMul, Nat.reduceSub, Nat.reduceBEq, Int.reduceToNat, Int.reduceLT, Int.reduceLE, Int.reduceEq, *] at hc; done) | (with_reducible (have hcc : true = true := hc); clear hcc hc) | (with_reducible (have hcc : false = false := hc); clear hcc hc) | ((try simp only [Bool.not_true, Bool.not_false] at hc); (first | (with_reducible (have hcc : true = true := hc); clear hcc hc) | (with_reducible (have hcc : false = false := hc); clear hcc hc) | (have hp := hc; (try simp only [decide_eq_true_eq, decide_eq_false_iff_not, Bool.and_eq_true, Bool.or_eq_true, Bool.or_eq_false_iff, Bool.and_eq_false_iff, Bool.not_eq_true', Bool.not_eq_false', Bool.not_true, Bool.not_false] at hp))))) <;> try simp only [push_cast, reduceIte, Nat.reduceEqDiff, Nat.reduceLT, Nat.reduceLeDiff, reduceCtorEq, Nat.reduceAdd, Nat.reduceMul, Nat.reduceSub, Nat.reduceBEq, Int.reduceToNat, Int.reduceLT, Int.reduceLE, Int.reduceEq, *]))
    | fail)
    rename_i n1 h1 n2 h2
    have h2' : (upd B n1 (.r 32 3 1 [[.c (.int .i64 r.s), .c (.int .i64 r.k), .c (.int .i64 r.v)]])) n2 = none := by rw [upd_ne h2.1.1]; exact h2.2
    refine does_app1 rfl rfl rfl rfl ((hown.new h1 _).new h2' _) ?_ tE22 tS32 tB32 tZ32 rfl (by decide) ?_ ?_ ?_
    · simp only [upd_none2, ne_eq, *]; simp
    · simp only [List.length_map, maxLen]; omega
    · simp only [List.length_map]; omega
    intro x' H' hown'
    have p1 := nt n1 h1
    have p2 := nt n2 h2.2
    have p3 := no n1 h1
    have p4 := no n2 h2.2
    have q1 : b.nt ≠ n1 := fun e => by rw [p1.1] at e; exact e
    have q2 : b.nt ≠ n2 := fun e => by rw [p2.1] at e; exact e
    have q3 : b.no ≠ n1 := fun e => by rw [p3.1] at e; exact e
    have q4 : b.no ≠ n2 := fun e => by rw [p4.1] at e; exact e
    have z1 := hown.none h1
    have z2 := hown.none h2.2
    have g1 := hown'.get (m := b.nt) (by rw [upd_ne q2, upd_ne q1]; exact Nos.gt hb src l o W y)
    have g2 := hown'.get (m := b.no) (by rw [upd_ne q4, upd_ne q3]; exact Nos.go hb src l o W y)
    have g3 := hown'.get (m := n2) (upd_same _ _ _)
    have hcs' := hown'.cs
    have q2' := Ne.symm q2
    have q4' := Ne.symm q4
    have d4' := Ne.symm d4
    clear kx ko kt kw nx no nt nw p1 p2 p3 p4 h2'
    (try simp only [push_cast, reduceIte, Nat.reduceEqDiff, Nat.reduceLT, Nat.reduceLeDiff, reduceCtorEq, Nat.reduceAdd, Nat.reduceMul, Nat.reduceSub, Nat.reduceBEq, Int.reduceToNat, Int.reduceLT, Int.reduceLE, Int.reduceEq, *])
    repeat' (first
    | refine AW_seq_kn fun K hK => ?_
    | refine AW_block ?_
    | (refine does_call rfl rfl ?_; simp only [push_cast, reduceIte, Nat.reduceEqDiff, Nat.reduceLT, Nat.reduceLeDiff, reduceCtorEq, Nat.reduceAdd, Nat.reduceMul, Nat.reduceSub, Nat.reduceBEq, Int.reduceToNat, Int.reduceLT, Int.reduceLE, Int.reduceEq, *]; refine ACall.mono (Next_p _ _ _ _ _ (by assumption) (by assumption) _) ?_; (rintro _ _ ⟨rfl, e2⟩; have e3 := e2.symm; clear e2; subst e3); (try simp only [push_cast, reduceIte, Nat.reduceEqDiff, Nat.reduceLT, Nat.reduceLeDiff, reduceCtorEq, Nat.reduceAdd, Nat.reduceMul, Nat.reduceSub, Nat.reduceBEq, Int.reduceToNat, Int.reduceLT, Int.reduceLE, Int.reduceEq, *]))
    | (refine does_call rfl rfl ?_; simp only [push_cast, reduceIte, Nat.reduceEqDiff, Nat.reduceLT, Nat.reduceLeDiff, reduceCtorEq, Nat.reduceAdd, Nat.reduceMul, Nat.reduceSub, Nat.reduceBEq, Int.reduceToNat, Int.reduceLT, Int.reduceLE, Int.reduceEq, *]; refine ACall.mono (Read_p _ _ _ _ _ (by assumption) (by assumption) _) ?_; (rintro _ _ ⟨rfl, e2⟩; have e3 := e2.symm; clear e2; subst e3); (try simp only [push_cast, reduceIte, Nat.reduceEqDiff, Nat.reduceLT, Nat.reduceLeDiff, reduceCtorEq, Nat.reduceAdd, Nat.reduceMul, Nat.reduceSub, Nat.reduceBEq, Int.reduceToNat, Int.reduceLT, Int.reduceLE, Int.reduceEq, *]))
    | ((first
      | refine AW_region E2 ?_ | refine AW_ret ?_ | refine AW_exit ?_ | refine AW_skip ?_ | unfold retQ); try simp only [push_cast, reduceIte, Nat.reduceEqDiff, Nat.reduceLT, Nat.reduceLeDiff, reduceCtorEq, Nat.reduceAdd, Nat.reduceMul, Nat.reduceSub, Nat.reduceBEq, Int.reduceToNat, Int.reduceLT, Int.reduceLE, Int.reduceEq, *])
    | (apply AW_cond; (case hc => (simp only [push_cast, reduceIte, Nat.reduceEqDiff, Nat.reduceLT, Nat.reduceLeDiff, reduceCtorEq, Nat.reduceAdd, Nat.reduceMul, Nat.reduceSub, Nat.reduceBEq, Int.reduceToNat, Int.reduceLT, Int.reduceLE, Int.reduceEq]; rfl)); all_goals (intro hc; first | (exfalso; simp only [push_cast, reduceIte, Nat.reduceEqDiff, Nat.reduceLT, Nat.reduceLeDiff, reduceCtorEq, Nat.reduceAdd, Nat.reduceMul, Nat.reduceSub, Nat.reduceBEq, Int.reduceToNat, Int.reduceLT, Int.reduceLE, Int.reduceEq, *] at hc; done) | (with_reducible (have hcc : true = true := hc); clear hcc hc) | (with_reducible (have hcc : false = false := hc); clear hcc hc) | ((try simp only [Bool.not_true, Bool.not_false] at hc); (first | (with_reducible (have hcc : true = true := hc); clear hcc hc) | (with_reducible (have hcc : false = false := hc); clear hcc hc) | (have hp := hc; (try simp only [decide_eq_true_eq, decide_eq_false_iff_not, Bool.and_eq_true, Bool.or_eq_true, Bool.or_eq_false_iff, Bool.and_eq_false_iff, Bool.not_eq_true', Bool.not_eq_false', Bool.not_true, Bool.not_false] at hp))))))
    | (refine Kn.go hK ?_; clear hK K)
    | refine Kn.go (by assumption) ?_
    | (intro n hn; (try simp only [upd_none2, join_none_iff, ite_none, ne_eq] at hn); (try simp only [push_cast, reduceIte, Nat.reduceEqDiff, Nat.reduceLT, Nat.reduceLeDiff, reduceCtorEq, Nat.reduceAdd, Nat.reduceMul, Nat.reduceSub, Nat.reduceBEq, Int.reduceToNat, Int.reduceLT, Int.reduceLE, Int.reduceEq, *]))
    | (intro hc)
    | (apply ER_blk; (case hp => rfl); (case hb => (simp only [push_cast, reduceIte, Nat.reduceEqDiff, Nat.reduceLT, Nat.reduceLeDiff, reduceCtorEq, Nat.reduceAdd, Nat.reduceMul, Nat.reduceSub, Nat.reduceBEq, Int.reduceToNat, Int.reduceLT, Int.reduceLE, Int.reduceEq]; rfl)); (case hd => (simp only [push_cast, reduceIte, Nat.reduceEqDiff, Nat.reduceLT, Nat.reduceLeDiff, reduceCtorEq, Nat.reduceAdd, Nat.reduceMul, Nat.reduceSub, Nat.reduceBEq, Int.reduceToNat, Int.reduceLT, Int.reduceLE, Int.reduceEq]; done)); (case h => (intro hc; simp only [push_cast, reduceIte, Nat.reduceEqDiff, Nat.reduceLT, Nat.reduceLeDiff, reduceCtorEq, Nat.reduceAdd, Nat.reduceMul, Nat.reduceSub, Nat.reduceBEq, Int.reduceToNat, Int.reduceLT, Int.reduceLE, Int.reduceEq, *]; rfl)); simp only [push_cast, reduceIte, Nat.reduceEqDiff, Nat.reduceLT, Nat.reduceLeDiff, reduceCtorEq, Nat.reduceAdd, Nat.reduceMul, Nat.reduceSub, Nat.reduceBEq, Int.reduceToNat, Int.reduceLT, Int.reduceLE, Int.reduceEq, *])
    | (apply ER_guard; (case hb => (simp only [push_cast, reduceIte, Nat.reduceEqDiff, Nat.reduceLT, Nat.reduceLeDiff, reduceCtorEq, Nat.reduceAdd, Nat.reduceMul, Nat.reduceSub, Nat.reduceBEq, Int.reduceToNat, Int.reduceLT, Int.reduceLE, Int.reduceEq]; rfl)); all_goals ((intro hc; first | (exfalso; simp only [push_cast, reduceIte, Nat.reduceEqDiff, Nat.reduceLT, Nat.reduceLeDiff, reduceCtorEq, Nat.reduceAdd, Nat.reduceMul, Nat.reduceSub, Nat.reduceBEq, Int.reduceToNat, Int.reduceLT, Int.reduceLE, Int.reduceEq, *] at hc; done) | (with_reducible (have hcc : true = true := hc); clear hcc hc) | (with_reducible (have hcc : false = false := hc); clear hcc hc) | ((try simp only [Bool.not_true, Bool.not_false] at hc); (first | (with_reducible (have hcc : true = true := hc); clear hcc hc) | (with_reducible (have hcc : false = false := hc); clear hcc hc) | (have hp := hc; (try simp only [decide_eq_true_eq, decide_eq_false_iff_not, Bool.and_eq_true, Bool.or_eq_true, Bool.or_eq_false_iff, Bool.and_eq_false_iff, Bool.not_eq_true', Bool.not_eq_false', Bool.not_true, Bool.not_false] at hp))))) <;> try simp only [push_cast, reduceIte, Nat.reduceEqDiff, Nat.reduceLT, Nat.reduceLeDiff, reduceCtorEq, Nat.reduceAdd, Nat.reduceMul, Nat.reduceSub, Nat.reduceBEq, Int.reduceToNat, Int.reduceLT, Int.reduceLE, Int.reduceEq, *]))
    | fail)
    have e1 : nextO o l i W = addG o r := by unfold nextO; rw [hnx]
    have e2 : nextT o l i W out = out ++ [r] := by unfold nextT; rw [hnx]
    rw [e1, e2, List.map_append]
    have m1 := hown'.turn (m := b.nt) (by rw [upd_ne q2, upd_ne q1]; exact Nos.gt hb src l o W y) (.r 22 1 1 [[x']])
    have m2 := m1.turn (m := b.no) (by rw [upd_ne d4, upd_ne q4, upd_ne q3]; exact Nos.go hb src l o W y) (.r 30 8 1 [(addG o r).map ci])
    have m3 := m2.dele (m := n2) (by rw [upd_ne q4', upd_ne q2']; exact upd_same _ _ _)
    have m4 := m3.dele (m := n1) (k := .r 32 3 1 [[.c (.int .i64 r.s), .c (.int .i64 r.k), .c (.int .i64 r.v)]]) (by rw [del_ne (Ne.symm h2.1.1), upd_ne (Ne.symm q3), upd_ne (Ne.symm q1), upd_ne (Ne.symm h2.1.1)]; exact upd_same _ _ _)
    rw [del_two z1 z2 q1 q2 q3 q4, Nos.sett hb, Nos.seto hb] at m4
    exact ⟨_, _, Weak.less (Heap.le_trans (del_le _ n1) (del_le _ n2)), rfl, x', m4⟩
end Go.Proofs.Ytcpmoeamhaahlaa
