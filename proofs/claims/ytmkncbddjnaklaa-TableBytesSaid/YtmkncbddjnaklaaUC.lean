/- Walks: the rows of a share; Part. -/
import Derived.Test.YtmkncbddjnaklaaUB
import Derived.Test.YtmkncbddjnaklaaTD
namespace Go.Proofs.Ytmkncbddjnaklaa
open Go.RowKit
open Nat renaming reduceEqDiff → nA, reduceLT → nB, reduceLeDiff → nC, reduceAdd → nD, reduceMul → nE, reduceSub → nF, reduceBEq → nG
open Int renaming reduceToNat → iA, reduceLT → iB, reduceLE → iC, reduceEq → iD
open Bool renaming and_eq_true → bA, or_eq_true → bB, or_eq_false_iff → bC, and_eq_false_iff → bD, not_eq_true' → bE, not_eq_false' → bF, not_true → bG, not_false → bH
set_option linter.all false
set_option maxHeartbeats 4000000
attribute [local irreducible] AW Does ACall tE tS tB tZ
def dLUC0 : List En := [(0, false, []), (2, true, []), (3, true, []), (1, false, [2, 3]), (4, false, []), (5, false, []), (6, false, []), (7, false, []), (8, false, []), (9, false, []), (10, false, [])]
def dAUC0 : List (List Nat) := [[], [0], [], [], [0, 1, 2, 3], [0, 1, 2, 3, 4], [0, 1, 2, 3, 4, 5], [0, 1, 2, 3, 4, 5], [0, 1, 2, 3, 4, 5, 6, 7], [0, 1, 2, 3, 4, 5, 6, 7, 8], [0, 1, 2, 3, 4, 5, 6, 7, 8, 9]]
attribute [push_cast] dLUC0
def dLUC1 : List En := [(0, false, []), (1, false, []), (2, false, []), (3, false, []), (4, false, []), (5, false, []), (6, false, []), (7, false, []), (8, false, []), (9, false, []), (10, false, [])]
def dAUC1 : List (List Nat) := [[], [0], [], [], [0, 1, 2, 3], [0, 1, 2, 3, 4], [0, 1, 2, 3, 4, 5], [0, 1, 2, 3, 4, 5], [0, 1, 2, 3, 4, 5, 6, 7], [0, 1, 2, 3, 4, 5, 6, 7, 8], [0, 1, 2, 3, 4, 5, 6, 7, 8, 9]]
attribute [push_cast] dLUC1

def ck3 : FuncId → List AV → Option AV
  | 86, [.g [.c (.int .i64 s), .c (.int .i64 k), .c (.int .i64 n), .c (.int .i64 t)]] => some (.g [.c (.int .i64 s), .c (.int .i64 k), .c (.int .i64 0)])
  | 83, [.g [.c (.int .i64 s), .c (.int .i64 k), .c (.int .i64 n), .c (.int .i64 t)]] => some (.g [.c (.int .i64 s), .c (.int .i64 k), .c (.int .i64 0)])
  | 50, [.g [.c (.int .i64 s), .c (.int .i64 k), .c (.int .i64 v)], .c (.int .i64 i), .c (.int .i64 w)] => some (.c (.bool (mineS ⟨s, k, v⟩ i w)))
  | 82, [.g [.c (.int .i64 s), .c (.int .i64 k), .c (.int .i64 v)], .c (.int .i64 i), .c (.int .i64 w)] => some (.c (.bool (mineS ⟨s, k, v⟩ i w)))
  | f, l => ck2 f l
theorem ck3_ok : ∀ f args r, ck3 f args = some r → ACall Try.prog f args (fun _ => none) (fun r' _ => r' = r) := by
  intro f args r h
  unfold ck3 at h
  split at h <;> first | exact ck2_ok _ _ _ h | (cases h; first | exact (key_p ⟨_, _, _, _⟩).cl | exact (rkey_p ⟨_, _, _, _⟩).cl | exact (mine_p _ _ _ _ _).cl | exact (mine7_p _ _ _ _ _).cl)
def EK3 : Env Try.prog := { E0 with cl := ck3, cl_ok := ck3_ok }
theorem EK3_cl : EK3.cl = ck3 := rfl
theorem EK3_eq : EK3.eq = eqTab := rfl
attribute [push_cast] EK3_cl EK3_eq ck3
theorem tmine_p (l : List KC) (i w : Int) : Pure Try.prog 80 [.g [.l 4 (l.map KC.av)], ci i, ci w] (.f (.func 113) [] [.q [.l 4 (l.map KC.av)] 0, .q [ci i] 0, .q [ci w] 0]) := by
  intro H
  refine ACall_of' Try.func80 rfl (Ent_of Try.func80 (by kernel_rfl) rfl) (by simp [Try.ntmps80]) ?_; simp only [Try.ntmps80, Try.results80]
  repeat' (first
    | refine AW_seq_kn fun K hK => ?_
    | refine AW_block ?_
    | ((first
      | refine AW_region E0 ?_ | refine AW_ret ?_ | refine AW_exit ?_ | refine AW_skip ?_ | unfold retQ); try simp only [push_cast, seval, *])
    | (apply AW_cond; (case hc => (simp only [push_cast, seval]; rfl)); all_goals (intro hc; first | (exfalso; simp only [push_cast, seval, *] at hc; done) | (exact absurd hc (by decide)) | ((try first | rw [Bool.not_true] at hc | rw [Bool.not_false] at hc); first | (with_reducible replace hc := tTT hc); clear hc | (with_reducible replace hc := tFF hc); clear hc | (have hp := hc; try simp only [decide_eq_true_eq, decide_eq_false_iff_not, bA, bB, bC, bD, bE, bF, bG, bH] at hp))))
    | (refine Kn.go hK ?_; clear hK K)
    | refine Kn.go (by assumption) ?_
    | (intro n hn; (try simp only [upd_none2, join_none_iff, ite_none, ne_eq] at hn); (try simp only [push_cast, seval, *]))
    | (intro hc)
    | fail)
  rename_i n1 h1 n2 h2
  refine ⟨_, _, ?_, rfl, rfl⟩
  (refine Weak.frzK n (by simp only [upd_get, del_get, if_true, if_false, reduceIte, *]; rfl) ?_; simp only [push_cast, frz, frzL, frzR, List.getElem?_cons_zero, List.length_cons, List.length_nil, List.drop_zero, and_self, and_true, true_and, and_false, false_and, if_true, if_false, reduceIte, Nat.reduceLeDiff, Nat.reduceAdd, Nat.reduceEqDiff, List.take_succ_cons, List.take_zero, List.take_nil, *])
  (refine Weak.frzK n2 (by simp only [upd_get, del_get, if_true, if_false, reduceIte, *]; rfl) ?_; simp only [push_cast, frz, frzL, frzR, List.getElem?_cons_zero, List.length_cons, List.length_nil, List.drop_zero, and_self, and_true, true_and, and_false, false_and, if_true, if_false, reduceIte, Nat.reduceLeDiff, Nat.reduceAdd, Nat.reduceEqDiff, List.take_succ_cons, List.take_zero, List.take_nil, *])
  (refine Weak.frzK n1 (by simp only [upd_get, del_get, if_true, if_false, reduceIte, *]; rfl) ?_; simp only [push_cast, frz, frzL, frzR, List.getElem?_cons_zero, List.length_cons, List.length_nil, List.drop_zero, and_self, and_true, true_and, and_false, false_and, if_true, if_false, reduceIte, Nat.reduceLeDiff, Nat.reduceAdd, Nat.reduceEqDiff, List.take_succ_cons, List.take_zero, List.take_nil, *])
  exact Weak.less (by (simp only [push_cast, seval, *]))
theorem AYield.new {P : Program} {lp : Nat} {args : List AV} {B : Heap} {K : Bool → Heap → Prop} {n : Nat} {k : Blk} (hn : B n = none) (h : AYield P lp args B K) : AYield P lp args (upd B n k) (fun b H' => ∃ B', Heap.le B' H' ∧ H' n = some k ∧ K b B') := by
  have hap : Apart (upd (fun _ => none) n k) B := fun q => by
    by_cases e : q = n
    · subst e; exact .inr hn
    · exact .inl (by rw [upd_ne e])
  have e : upd B n k = join (upd (fun _ => none) n k) B := by
    funext q
    unfold join upd
    by_cases e : q = n <;> simp [e]
  rw [e]
  refine (AYield.frame hap h).mono ?_
  rintro b H' ⟨B', rfl, ha, hk⟩
  exact ⟨B', le_join_right ha, join_left (upd_same _ _ _), hk⟩
theorem tmine_i (l : List KC) (hl : l.length ≤ 1000000) (i w : Int) : PIter Try.prog 113 [.q [.l 4 (l.map KC.av)] 0, .q [ci i] 0, .q [ci w] 0] ((l.filter fun x => mineS (keyS x) i w).map fun x => [.g (KC.av x)]) := by
  refine ⟨Ent_of Try.func113 (by kernel_rfl) rfl, ?_⟩
  intro lp J Jx hr B hJ
  obtain ⟨p, hpe⟩ : ∃ p : KC → Bool, p = fun x => mineS (keyS x) i w := ⟨_, rfl⟩
  rw [← hpe] at hr ⊢
  have hpx : ∀ x, p x = mineS (keyS x) i w := fun x => by rw [hpe]
  clear hpe
  refine ACall_of' Try.func113 rfl (Ent_of Try.func113 (by kernel_rfl) rfl) (by simp [Try.ntmps113]) ?_; simp only [Try.ntmps113, Try.results113]
  repeat' (first
    | refine AW_seq_kn fun K hK => ?_
    | refine AW_block ?_
    | (refine does_call rfl rfl ?_; simp only [push_cast, seval, *]; refine ACall.monoP (key_p ⟨_, _, _, _⟩ _) ?_; (try simp only [push_cast, seval, *]))
    | ((first
      | refine AW_region_draw (id := 3) EK3 (fun f => [].contains f) dLUC0 dAUC0 mixed (by kernel_rfl) ?_
      | refine AW_region EK3 ?_ | refine AW_ret ?_ | refine AW_exit ?_ | refine AW_skip ?_ | unfold retQ); try simp only [push_cast, seval, *])
    | ((first | (apply AW_cond; (case hc => (simp only [push_cast, seval]; rfl))) | (apply ER_guard; (case hb => (simp only [push_cast, seval]; rfl)))); all_goals ((intro hc; first | (exfalso; simp only [push_cast, seval, *] at hc; done) | (exact absurd hc (by decide)) | ((try first | rw [Bool.not_true] at hc | rw [Bool.not_false] at hc); first | (with_reducible replace hc := tTT hc); clear hc | (with_reducible replace hc := tFF hc); clear hc | (have hp := hc; try simp only [decide_eq_true_eq, decide_eq_false_iff_not, bA, bB, bC, bD, bE, bF, bG, bH] at hp))) <;> try simp only [push_cast, seval, *]))
    | (refine Kn.go hK ?_; clear hK K)
    | refine Kn.go (by assumption) ?_
    | (intro n hn; (try simp only [upd_none2, join_none_iff, ite_none, ne_eq] at hn); (try simp only [push_cast, seval, *]))
    | (intro hc)
    | (apply ER_blk; (case hp => rfl); (case hb => (simp only [push_cast, seval]; rfl)); (case hd => (simp only [push_cast, seval]; done)); (case h => (intro hc; simp only [push_cast, seval, *]; rfl)); simp only [push_cast, seval, *])
    | fail)
  refine AW_loopX l.length (fun k (B : Heap) => J (cnt p l k) B) (fun k _ => [(0, .c (.func (.yield lp) #[] #[])), (2, .q [ci i] 0), (3, .q [ci w] 0), (8, .l 4 (l.map KC.av)), (9, ci l.length), (10, ci k)]) (fun _ B => B) B hJ ?_ ?_ ?_ ?_
  · (first | trivial | (simp only [push_cast, seval, *]; done))
  · (first | trivial | ((simp only [push_cast, seval, *]); repeat' (first | rfl | exact Heap.le_refl _ | refine And.intro ?_ ?_)) | rfl | exact ⟨rfl, rfl⟩ | exact ⟨rfl, rfl, rfl⟩ | exact Heap.le_refl _)
  · intro k B hk hJ
    have hx := List.getElem?_eq_getElem (l := l) hk; generalize l[k] = x at hx; have hxm := List.mem_of_getElem? hx; have hkl : (k : Int) < l.length := (by omega); have hkw : IntKind.i64.wrap ((k : Int) + 1) = (k : Int) + 1 := wrap_i64 (by omega) (by omega)
    have hpy := hpx x
    cases hp : p x
    · rw [hp] at hpy
      replace hpy := hpy.symm
      obtain ⟨xs, xk, xn, xt⟩ := x
      simp only [keyS] at hpy
      repeat' (first
    | refine AW_seq_kn fun K hK => ?_
    | refine AW_block ?_
    | (refine does_call rfl rfl ?_; simp only [push_cast, seval, *]; refine ACall.monoP (key_p ⟨_, _, _, _⟩ _) ?_; (try simp only [push_cast, seval, *]))
    | ((first
      | refine AW_region_draw (id := 3) EK3 (fun f => [50, 86].contains f) dLUC1 dAUC1 mixed (by kernel_rfl) ?_
      | refine AW_region EK3 ?_ | refine AW_ret ?_ | refine AW_exit ?_ | refine AW_skip ?_ | unfold retQ); try simp only [push_cast, seval, *])
    | ((first | (apply AW_cond; (case hc => (simp only [push_cast, seval]; rfl))) | (apply ER_guard; (case hb => (simp only [push_cast, seval]; rfl)))); all_goals ((intro hc; first | (exfalso; simp only [push_cast, seval, *] at hc; done) | (exact absurd hc (by decide)) | ((try first | rw [Bool.not_true] at hc | rw [Bool.not_false] at hc); first | (with_reducible replace hc := tTT hc); clear hc | (with_reducible replace hc := tFF hc); clear hc | (have hp := hc; try simp only [decide_eq_true_eq, decide_eq_false_iff_not, bA, bB, bC, bD, bE, bF, bG, bH] at hp))) <;> try simp only [push_cast, seval, *]))
    | (refine Kn.go hK ?_; clear hK K)
    | refine Kn.go (by assumption) ?_
    | (intro n hn; (try simp only [upd_none2, join_none_iff, ite_none, ne_eq] at hn); (try simp only [push_cast, seval, *]))
    | (intro hc)
    | (apply ER_blk; (case hp => rfl); (case hb => (simp only [push_cast, seval]; rfl)); (case hd => (simp only [push_cast, seval]; done)); (case h => (intro hc; simp only [push_cast, seval, *]; rfl)); simp only [push_cast, seval, *])
    | fail)
      exact ⟨B, by rw [cnt_neg hx hp]; exact hJ, by (first | trivial | (simp only [push_cast, seval, *]; done)), by (first | trivial | ((simp only [push_cast, seval, *]); repeat' (first | rfl | exact Heap.le_refl _ | refine And.intro ?_ ?_)) | rfl | exact ⟨rfl, rfl⟩ | exact ⟨rfl, rfl, rfl⟩ | exact Heap.le_refl _)⟩
    · have hy := cnt_yield hr hx hp hJ
      rw [hp] at hpy
      replace hpy := hpy.symm
      obtain ⟨xs, xk, xn, xt⟩ := x
      simp only [keyS] at hpy
      simp only [push_cast, seval] at hy
      repeat' (first
    | refine AW_seq_kn fun K hK => ?_
    | refine AW_block ?_
    | (refine does_yield rfl rfl ?_; simp only [push_cast, seval, *]; refine AYield.mono (AYield.new hn hy) ?_; rintro b H' ⟨B', hle, hkn, (⟨rfl, hJ'⟩ | ⟨rfl, hJ'⟩)⟩ <;> (try simp only [push_cast, seval, *]))
    | (refine does_call rfl rfl ?_; simp only [push_cast, seval, *]; refine ACall.monoP (key_p ⟨_, _, _, _⟩ _) ?_; (try simp only [push_cast, seval, *]))
    | ((first
      | refine AW_region_draw (id := 3) EK3 (fun f => [50, 86].contains f) dLUC1 dAUC1 mixed (by kernel_rfl) ?_
      | refine AW_region EK3 ?_ | refine AW_ret ?_ | refine AW_exit ?_ | refine AW_skip ?_ | unfold retQ); try simp only [push_cast, seval, *])
    | ((first | (apply AW_cond; (case hc => (simp only [push_cast, seval]; rfl))) | (apply ER_guard; (case hb => (simp only [push_cast, seval]; rfl)))); all_goals ((intro hc; first | (exfalso; simp only [push_cast, seval, *] at hc; done) | (exact absurd hc (by decide)) | ((try first | rw [Bool.not_true] at hc | rw [Bool.not_false] at hc); first | (with_reducible replace hc := tTT hc); clear hc | (with_reducible replace hc := tFF hc); clear hc | (have hp := hc; try simp only [decide_eq_true_eq, decide_eq_false_iff_not, bA, bB, bC, bD, bE, bF, bG, bH] at hp))) <;> try simp only [push_cast, seval, *]))
    | (refine Kn.go hK ?_; clear hK K)
    | refine Kn.go (by assumption) ?_
    | (intro n hn; (try simp only [upd_none2, join_none_iff, ite_none, ne_eq] at hn); (try simp only [push_cast, seval, *]))
    | (intro hc)
    | (apply ER_blk; (case hp => rfl); (case hb => (simp only [push_cast, seval]; rfl)); (case hd => (simp only [push_cast, seval]; done)); (case h => (intro hc; simp only [push_cast, seval, *]; rfl)); simp only [push_cast, seval, *])
    | fail)
      · exact ⟨B', hJ', by (first | trivial | (simp only [push_cast, seval, *]; done)), hle⟩
      · exact ⟨_, _, Weak.less hle, .inr hJ'⟩
  · intro B hJ
    repeat' (first
    | refine AW_seq_kn fun K hK => ?_
    | refine AW_block ?_
    | (refine does_call rfl rfl ?_; simp only [push_cast, seval, *]; refine ACall.monoP (key_p ⟨_, _, _, _⟩ _) ?_; (try simp only [push_cast, seval, *]))
    | ((first
      | refine AW_region_draw (id := 3) EK3 (fun f => [].contains f) dLUC0 dAUC0 mixed (by kernel_rfl) ?_
      | refine AW_region EK3 ?_ | refine AW_ret ?_ | refine AW_exit ?_ | refine AW_skip ?_ | unfold retQ); try simp only [push_cast, seval, *])
    | ((first | (apply AW_cond; (case hc => (simp only [push_cast, seval]; rfl))) | (apply ER_guard; (case hb => (simp only [push_cast, seval]; rfl)))); all_goals ((intro hc; first | (exfalso; simp only [push_cast, seval, *] at hc; done) | (exact absurd hc (by decide)) | ((try first | rw [Bool.not_true] at hc | rw [Bool.not_false] at hc); first | (with_reducible replace hc := tTT hc); clear hc | (with_reducible replace hc := tFF hc); clear hc | (have hp := hc; try simp only [decide_eq_true_eq, decide_eq_false_iff_not, bA, bB, bC, bD, bE, bF, bG, bH] at hp))) <;> try simp only [push_cast, seval, *]))
    | (refine Kn.go hK ?_; clear hK K)
    | refine Kn.go (by assumption) ?_
    | (intro n hn; (try simp only [upd_none2, join_none_iff, ite_none, ne_eq] at hn); (try simp only [push_cast, seval, *]))
    | (intro hc)
    | (apply ER_blk; (case hp => rfl); (case hb => (simp only [push_cast, seval]; rfl)); (case hd => (simp only [push_cast, seval]; done)); (case h => (intro hc; simp only [push_cast, seval, *]; rfl)); simp only [push_cast, seval, *])
    | fail)
    exact ⟨_, _, Weak.refl _ _, .inl (by rw [← cnt_all (Nat.le_refl l.length)]; exact hJ)⟩
theorem cut1k {G : Heap} {m7 n : Nat} {a c k : Blk} (hn : G n = none) : Heap.le (upd G m7 c) (upd (upd (upd G m7 a) n k) m7 c) := fun q z hq => by
  by_cases e : q = m7
  · subst e; rw [upd_same] at hq ⊢; exact hq
  · rw [upd_ne e] at hq ⊢
    have c1 : q ≠ n := by rintro rfl; rw [hn] at hq; cases hq
    rw [upd_ne c1, upd_ne e]; exact hq
abbrev bxT' (x : AV) : Blk := .r 47 1 1 [[x]]
theorem collectedK_o (l : List KC) (hl : l.length ≤ 1000000) (gf : FuncId) (caps : List AV) (hit : PIter Try.prog gf caps (l.map fun x => [.g (KC.av x)])) (H : Heap) :
    ACall Try.prog 79 [.f (.func gf) [] caps] H fun r H' => OwnL H' r 80 4 (l.map KC.av) H := by
  refine ACall_of' Try.func79 rfl (Ent_of Try.func79 (by kernel_rfl) rfl) (by simp [Try.ntmps79]) ?_; simp only [Try.ntmps79, Try.results79]
  repeat' (first
    | refine AW_seq_kn fun K hK => ?_
    | refine AW_block ?_
    | ((first
      | refine AW_region E0 ?_ | refine AW_ret ?_ | refine AW_exit ?_ | refine AW_skip ?_ | unfold retQ); try simp only [push_cast, seval, *])
    | (apply AW_cond; (case hc => (simp only [push_cast, seval]; rfl)); all_goals (intro hc; first | (exfalso; simp only [push_cast, seval, *] at hc; done) | (exact absurd hc (by decide)) | ((try first | rw [Bool.not_true] at hc | rw [Bool.not_false] at hc); first | (with_reducible replace hc := tTT hc); clear hc | (with_reducible replace hc := tFF hc); clear hc | (have hp := hc; try simp only [decide_eq_true_eq, decide_eq_false_iff_not, bA, bB, bC, bD, bE, bF, bG, bH] at hp))))
    | (refine Kn.go hK ?_; clear hK K)
    | refine Kn.go (by assumption) ?_
    | (intro n hn; (try simp only [upd_none2, join_none_iff, ite_none, ne_eq] at hn); (try simp only [push_cast, seval, *]))
    | (intro hc)
    | fail)
  refine AW_rangeP rfl hit (by intro x hx; obtain ⟨y, _, rfl⟩ := List.mem_map.1 hx; rfl) (by simp) (fun k B => ∃ x B2, Heap.le B2 B ∧ OwnL B2 x 80 4 ((l.take k).map KC.av) (upd H n (bxT' x))) (fun _ _ => False) ⟨_, _, Heap.le_refl _, .inl ⟨⟨_, rfl⟩, rfl, rfl⟩⟩ ?_ ?_ ?_
  · rintro k hk B3 ⟨x, B, hle, hown⟩
    refine AW_less hle ?_
    clear hle
    have hk' : k < l.length := by simpa using hk
    have hkt := hown.get (upd_same _ _ _)
    have hcs := hown.cs
    have hx := List.getElem?_eq_getElem hk'
    simp only [List.getElem_map]
    generalize l[k] = y at hx
    have hty : List.take 4 (KC.av y) = KC.av y := rfl
    have hnb := ne_old hkt
    generalize n = nb at *
    have hkm := take_snoc_map KC.av hx
    obtain ⟨ys, yk, yn, yt⟩ := y
    replace hkm := Lib.hid hkm
    simp only [bxT'] at hkt
    repeat' (first
    | refine AW_seq_kn fun K hK => ?_
    | refine AW_block ?_
    | ((first
      | refine AW_region E0 ?_ | refine AW_ret ?_ | refine AW_exit ?_ | refine AW_skip ?_ | unfold retQ); try simp only [push_cast, seval, *])
    | (apply AW_cond; (case hc => (simp only [push_cast, seval]; rfl)); all_goals (intro hc; first | (exfalso; simp only [push_cast, seval, *] at hc; done) | (exact absurd hc (by decide)) | ((try first | rw [Bool.not_true] at hc | rw [Bool.not_false] at hc); first | (with_reducible replace hc := tTT hc); clear hc | (with_reducible replace hc := tFF hc); clear hc | (have hp := hc; try simp only [decide_eq_true_eq, decide_eq_false_iff_not, bA, bB, bC, bD, bE, bF, bG, bH] at hp))))
    | (refine Kn.go hK ?_; clear hK K)
    | refine Kn.go (by assumption) ?_
    | (intro n hn; (try simp only [upd_none2, join_none_iff, ite_none, ne_eq] at hn); (try simp only [push_cast, seval, *]))
    | (intro hc)
    | fail)
    rename_i n1 h1
    have c1 : ¬ n1 = nb := of_eq_false (hnb n1 h1).2
    have own1 := hown.new h1 (.r 80 4 1 [[.c (.int .i64 ys), .c (.int .i64 yk), .c (.int .i64 yn), .c (.int .i64 yt)]])
    have hH1 : H n1 = none := by
      have h := hown.none h1
      rw [upd_none] at h; exact h.2
    refine does_app1 rfl rfl rfl rfl own1 (by simp only [upd_none2]; exact hn) tE47 tS80 tB80 tZ80 rfl (by decide) ?_ ?_ ?_
    · simp only [List.length_map, List.length_take, maxLen]; omega
    · simp only [List.length_map, List.length_take]; omega
    intro x' H' hown'
    have gk : upd (upd H nb (bxT' x)) n1 (.r 80 4 1 [[.c (.int .i64 ys), .c (.int .i64 yk), .c (.int .i64 yn), .c (.int .i64 yt)]]) nb = some (bxT' x) := by rw [upd_ne (Ne.symm c1), upd_same]
    have hkt' := hown'.get gk
    have hcs' := hown'.cs
    obtain ⟨H2, l1, l2⟩ := (hown'.turn gk (bxT' x')).cut (K := upd H nb (bxT' x')) (cut1k hH1)
    clear own1 hown hown' gk hkt hcs
    simp only [bxT'] at hkt' l1
    replace l1 := Lib.hid l1
    replace l2 := Lib.hid l2
    (try simp only [push_cast, seval, *])
    refine ⟨x', H2, unhid l1, ?_⟩
    have hkm := unhid hkm
    rw [hkm]
    exact unhid l2
  · rintro B3 ⟨x, B, hle, hown⟩
    rw [List.length_map, List.take_length] at hown
    have hkt := hle _ _ (hown.get (upd_same _ _ _))
    obtain ⟨B2, l1, l2⟩ := hown.cut (le_upd_new hn)
    replace l1 := Heap.le_trans l1 hle
    clear hle
    replace l2 := Lib.hid l2
    replace l1 := Lib.hid l1
    repeat' (first
    | refine AW_seq_kn fun K hK => ?_
    | refine AW_block ?_
    | ((first
      | refine AW_region E0 ?_ | refine AW_ret ?_ | refine AW_exit ?_ | refine AW_skip ?_ | unfold retQ); try simp only [push_cast, seval, *])
    | (apply AW_cond; (case hc => (simp only [push_cast, seval]; rfl)); all_goals (intro hc; first | (exfalso; simp only [push_cast, seval, *] at hc; done) | (exact absurd hc (by decide)) | ((try first | rw [Bool.not_true] at hc | rw [Bool.not_false] at hc); first | (with_reducible replace hc := tTT hc); clear hc | (with_reducible replace hc := tFF hc); clear hc | (have hp := hc; try simp only [decide_eq_true_eq, decide_eq_false_iff_not, bA, bB, bC, bD, bE, bF, bG, bH] at hp))))
    | (refine Kn.go hK ?_; clear hK K)
    | refine Kn.go (by assumption) ?_
    | (intro n hn; (try simp only [upd_none2, join_none_iff, ite_none, ne_eq] at hn); (try simp only [push_cast, seval, *]))
    | (intro hc)
    | fail)
    exact ⟨_, B2, Weak.less (unhid l1), unhid l2⟩
  · exact fun _ _ h => h.elim
def partS (l : List KC) (i w : Int) : List KC × Int := if tOk l = false then ([], 220) else if shareS i w = true then (l.filter (fun x => mineS (keyS x) i w), 0) else ([], 2)
theorem Part_o (l : List KC) (hl : l.length ≤ 1000000) (i w : Int) (H : Heap) :
    ACall Try.prog 43 [.g [.l 4 (l.map KC.av)], ci i, ci w] H fun q H' => ∃ y, q = .t [.g [y], .c (.int .i64 (partS l i w).2)] ∧ OwnL H' y 80 4 ((partS l i w).1.map KC.av) H := by
  have hP : partS l i w = if tOk l = false then ([], 220) else if shareS i w = true then (l.filter (fun x => mineS (keyS x) i w), 0) else ([], 2) := rfl
  have hch := tcheck_p l (by unfold maxLen; omega)
  have how := Owned_p i w
  have hmi := tmine_p l i w
  have hit := tmine_i l hl i w
  have hfl : (l.filter (fun x => mineS (keyS x) i w)).length ≤ 1000000 := Nat.le_trans (List.length_filter_le _ _) hl
  generalize partS l i w = D at *
  generalize l.filter (fun x => mineS (keyS x) i w) = C at *
  generalize ownedS i w = W at *
  have hcol := fun H => collectedK_o C hfl _ _ hit H
  obtain ⟨D1, D2⟩ := D
  cases ht : tOk l
  · rw [ht] at hch hP
    simp only [Bool.false_eq_true, if_false, if_true, vE220, Prod.mk.injEq] at hch hP
    obtain ⟨rfl, rfl⟩ := hP
    clear how hmi hit hcol
    refine ACall_of' Try.func43 rfl (Ent_of Try.func43 (by kernel_rfl) rfl) (by simp [Try.ntmps43]) ?_; simp only [Try.ntmps43, Try.results43]
    repeat' (first
    | refine AW_seq_kn fun K hK => ?_
    | refine AW_block ?_
    | (refine does_call rfl rfl ?_; simp only [push_cast, seval, *]; refine ACall.monoP (hch _) ?_; (try simp only [push_cast, seval, *]))
    | (refine does_call rfl rfl ?_; simp only [push_cast, seval, *]; refine ACall.monoP (Owned_p _ _ _) ?_; (try simp only [push_cast, seval, *]))
    | ((first
      | refine AW_region E0 ?_ | refine AW_ret ?_ | refine AW_exit ?_ | refine AW_skip ?_ | unfold retQ); try simp only [push_cast, seval, *])
    | (apply AW_cond; (case hc => (simp only [push_cast, seval]; rfl)); all_goals (intro hc; first | (exfalso; simp only [push_cast, seval, *] at hc; done) | (exact absurd hc (by decide)) | ((try first | rw [Bool.not_true] at hc | rw [Bool.not_false] at hc); first | (with_reducible replace hc := tTT hc); clear hc | (with_reducible replace hc := tFF hc); clear hc | (have hp := hc; try simp only [decide_eq_true_eq, decide_eq_false_iff_not, bA, bB, bC, bD, bE, bF, bG, bH] at hp))))
    | (refine Kn.go hK ?_; clear hK K)
    | refine Kn.go (by assumption) ?_
    | (intro n hn; (try simp only [upd_none2, join_none_iff, ite_none, ne_eq] at hn); (try simp only [push_cast, seval, *]))
    | (intro hc)
    | fail)
    exact ⟨_, H, Weak.less (by (simp only [push_cast, seval, *])), _, rfl, .inl ⟨⟨_, rfl⟩, rfl, rfl⟩⟩
  cases hs : shareS i w
  · rw [ht, hs] at hP
    rw [ht] at hch
    rw [hs] at how
    simp only [Bool.true_eq_false, Bool.false_eq_true, if_false, if_true, vE0, Prod.mk.injEq] at hch hP how
    obtain ⟨rfl, rfl⟩ := hP
    clear hmi hit hcol
    refine ACall_of' Try.func43 rfl (Ent_of Try.func43 (by kernel_rfl) rfl) (by simp [Try.ntmps43]) ?_; simp only [Try.ntmps43, Try.results43]
    repeat' (first
    | refine AW_seq_kn fun K hK => ?_
    | refine AW_block ?_
    | (refine does_call rfl rfl ?_; simp only [push_cast, seval, *]; refine ACall.monoP (hch _) ?_; (try simp only [push_cast, seval, *]))
    | (refine does_call rfl rfl ?_; simp only [push_cast, seval, *]; refine ACall.monoP (how _) ?_; (try simp only [push_cast, seval, *]))
    | (refine does_call rfl rfl ?_; simp only [push_cast, seval, *]; refine ACall.monoP (Owned_p _ _ _) ?_; (try simp only [push_cast, seval, *]))
    | ((first
      | refine AW_region E0 ?_ | refine AW_ret ?_ | refine AW_exit ?_ | refine AW_skip ?_ | unfold retQ); try simp only [push_cast, seval, *])
    | (apply AW_cond; (case hc => (simp only [push_cast, seval]; rfl)); all_goals (intro hc; first | (exfalso; simp only [push_cast, seval, *] at hc; done) | (exact absurd hc (by decide)) | ((try first | rw [Bool.not_true] at hc | rw [Bool.not_false] at hc); first | (with_reducible replace hc := tTT hc); clear hc | (with_reducible replace hc := tFF hc); clear hc | (have hp := hc; try simp only [decide_eq_true_eq, decide_eq_false_iff_not, bA, bB, bC, bD, bE, bF, bG, bH] at hp))))
    | (refine Kn.go hK ?_; clear hK K)
    | refine Kn.go (by assumption) ?_
    | (intro n hn; (try simp only [upd_none2, join_none_iff, ite_none, ne_eq] at hn); (try simp only [push_cast, seval, *]))
    | (intro hc)
    | fail)
    exact ⟨_, H, Weak.less (by (simp only [push_cast, seval, *])), _, rfl, .inl ⟨⟨_, rfl⟩, rfl, rfl⟩⟩
  rw [ht, hs] at hP
  rw [ht] at hch
  rw [hs] at how
  simp only [Bool.true_eq_false, if_false, if_true, vE0, Prod.mk.injEq] at hch hP how
  obtain ⟨rfl, rfl⟩ := hP
  replace hcol := Lib.hid hcol
  clear hit
  refine ACall_of' Try.func43 rfl (Ent_of Try.func43 (by kernel_rfl) rfl) (by simp [Try.ntmps43]) ?_; simp only [Try.ntmps43, Try.results43]
  repeat' (first
    | refine AW_seq_kn fun K hK => ?_
    | refine AW_block ?_
    | (refine does_call rfl rfl ?_; simp only [push_cast, seval, *]; refine ACall.monoP (hch _) ?_; (try simp only [push_cast, seval, *]))
    | (refine does_call rfl rfl ?_; simp only [push_cast, seval, *]; refine ACall.monoP (how _) ?_; (try simp only [push_cast, seval, *]))
    | (refine does_call rfl rfl ?_; simp only [push_cast, seval, *]; refine ACall.monoP (hmi _) ?_; (try simp only [push_cast, seval, *]))
    | (refine does_call rfl rfl ?_; simp only [push_cast, seval, *]; refine ACall.monoP (Owned_p _ _ _) ?_; (try simp only [push_cast, seval, *]))
    | ((first
      | refine AW_region E0 ?_ | refine AW_ret ?_ | refine AW_exit ?_ | refine AW_skip ?_ | unfold retQ); try simp only [push_cast, seval, *])
    | (apply AW_cond; (case hc => (simp only [push_cast, seval]; rfl)); all_goals (intro hc; first | (exfalso; simp only [push_cast, seval, *] at hc; done) | (exact absurd hc (by decide)) | ((try first | rw [Bool.not_true] at hc | rw [Bool.not_false] at hc); first | (with_reducible replace hc := tTT hc); clear hc | (with_reducible replace hc := tFF hc); clear hc | (have hp := hc; try simp only [decide_eq_true_eq, decide_eq_false_iff_not, bA, bB, bC, bD, bE, bF, bG, bH] at hp))))
    | (refine Kn.go hK ?_; clear hK K)
    | refine Kn.go (by assumption) ?_
    | (intro n hn; (try simp only [upd_none2, join_none_iff, ite_none, ne_eq] at hn); (try simp only [push_cast, seval, *]))
    | (intro hc)
    | fail)
  refine does_call rfl rfl ?_
  simp only [push_cast, seval, *]
  refine ACall.mono (unhid hcol _) ?_
  intro x B hown
  rename_i n1 h1
  generalize n = n6 at *
  have g6 : upd (upd H n1 (.r 49 1 1 [[.l 4 (l.map KC.av)]])) n6 (.r 49 1 1 [[.c (.slice none 0 0)]]) n6 = some (.r 49 1 1 [[.c (.slice none 0 0)]]) := upd_same _ _ _
  have k6 := hown.get g6
  have hcs := hown.cs
  obtain ⟨H2, l1, l2⟩ := (hown.turn g6 (bxT x)).cut (K := H) (fun q b hq => by
    have c1 : q ≠ n1 := by rintro rfl; rw [h1] at hq; cases hq
    have c2 : q ≠ n6 := by rintro rfl; rw [hn.2] at hq; cases hq
    rw [upd_ne c2, upd_ne c2, upd_ne c1]; exact hq)
  clear hown g6
  simp only [bxT] at l1
  replace l1 := Lib.hid l1
  replace l2 := Lib.hid l2
  (try simp only [push_cast, seval, *])
  repeat' (first
    | refine AW_seq_kn fun K hK => ?_
    | refine AW_block ?_
    | (refine does_call rfl rfl ?_; simp only [push_cast, seval, *]; refine ACall.monoP (Owned_p _ _ _) ?_; (try simp only [push_cast, seval, *]))
    | ((first
      | refine AW_region E0 ?_ | refine AW_ret ?_ | refine AW_exit ?_ | refine AW_skip ?_ | unfold retQ); try simp only [push_cast, seval, *])
    | (apply AW_cond; (case hc => (simp only [push_cast, seval]; rfl)); all_goals (intro hc; first | (exfalso; simp only [push_cast, seval, *] at hc; done) | (exact absurd hc (by decide)) | ((try first | rw [Bool.not_true] at hc | rw [Bool.not_false] at hc); first | (with_reducible replace hc := tTT hc); clear hc | (with_reducible replace hc := tFF hc); clear hc | (have hp := hc; try simp only [decide_eq_true_eq, decide_eq_false_iff_not, bA, bB, bC, bD, bE, bF, bG, bH] at hp))))
    | (refine Kn.go hK ?_; clear hK K)
    | refine Kn.go (by assumption) ?_
    | (intro n hn; (try simp only [upd_none2, join_none_iff, ite_none, ne_eq] at hn); (try simp only [push_cast, seval, *]))
    | (intro hc)
    | fail)
  exact ⟨_, H2, Weak.less (unhid l1), x, rfl, unhid l2⟩
end Go.Proofs.Ytmkncbddjnaklaa
