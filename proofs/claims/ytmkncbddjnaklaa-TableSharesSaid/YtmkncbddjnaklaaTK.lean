/- Walks: the cell of a key by the document; an operator that can be played; tables that fit. -/
import Derived.Test.YtmkncbddjnaklaaTJ
import Derived.Test.YtmkncbddjnaklaaG
namespace Go.Proofs.Ytmkncbddjnaklaa
open Go.RowKit
open Nat renaming reduceEqDiff → nA, reduceLT → nB, reduceLeDiff → nC, reduceAdd → nD, reduceMul → nE, reduceSub → nF, reduceBEq → nG
open Int renaming reduceToNat → iA, reduceLT → iB, reduceLE → iC, reduceEq → iD
open Bool renaming and_eq_true → bA, or_eq_true → bB, or_eq_false_iff → bC, and_eq_false_iff → bD, not_eq_true' → bE, not_eq_false' → bF, not_true → bG, not_false → bH
set_option linter.all false
set_option maxHeartbeats 4000000
attribute [local irreducible] AW Does ACall tE tS tB tZ

theorem op12_p (o : OpD) (hl : o.ins.length ≤ maxLen) : Pure Try.prog 33 [.g (OpD.av o)] (.g (OpD.av (shO o))) := by
  intro H
  obtain ⟨t, w, l, A, B⟩ := o
  simp only at hl
  unfold maxLen at hl
  obtain ⟨mn, hmn, hm1, hm2, hm3⟩ := min41 l 10
  simp only [Int.cast_ofNat_Int] at hmn
  have hmI : (mn : Int) ≤ l.length := by omega
  have hzl : (List.map i1 l).take mn = (l.take 10).map i1 := by rw [← hm3, List.map_take]
  have hbl : (l.take 10).length ≤ 10 := by simp; omega
  simp only [shO, OpD.av]
  generalize l.take 10 = C at *
  clear hm3
  refine ACall_of' Try.func33 rfl (Ent_of Try.func33 (by kernel_rfl) rfl) (by simp [Try.ntmps33]) ?_; simp only [Try.ntmps33, Try.results33]
  repeat' (first
    | refine AW_seq_kn fun K hK => ?_
    | refine AW_block ?_
    | ((first
      | refine AW_region E0 ?_ | refine AW_ret ?_ | refine AW_exit ?_ | refine AW_skip ?_ | unfold retQ); try simp only [push_cast, seval, *])
    | (apply AW_cond; (case hc => (simp only [push_cast, seval]; rfl)); all_goals (intro hc; first | (exfalso; simp only [push_cast, seval, *] at hc; done) | (exact absurd hc (by decide)) | ((try first | rw [Bool.not_true] at hc | rw [Bool.not_false] at hc); first | (with_reducible replace hc := tTT hc); clear hc | (with_reducible replace hc := tFF hc); clear hc | (have hp := hc; try simp only [decide_eq_true_eq, decide_eq_false_iff_not, bA, bB, bC, bD, bE, bF, bG, bH] at hp))))
    | (refine Kn.go hK ?_; clear hK K)
    | refine Kn.go (by assumption) ?_
    | (intro n hn; (try simp only [upd_none2, join_none_iff, ite_none, ne_eq] at hn); (try simp only [push_cast, seval, *]))
    | (intro hc)
    | fail)
  rename_i n1 h1 n2 h2
  obtain ⟨Hs, hHs⟩ : ∃ Hs : Heap, Hs = upd (upd H n1 (.r 24 5 1 [[.c (.int .i64 t), .c (.int .i64 w), .l 1 (l.map i1), .c (.int .i64 A), .c (.int .i64 B)]])) n2 (.r 24 5 1 [[.c (.int .i64 0), .c (.int .i64 0), .c (.slice none 0 0), .c (.int .i64 0), .c (.int .i64 0)]]) := ⟨_, rfl⟩
  have g1 : Hs n1 = some (.r 24 5 1 [[.c (.int .i64 t), .c (.int .i64 w), .l 1 (l.map i1), .c (.int .i64 A), .c (.int .i64 B)]]) := by rw [hHs]; simp only [push_cast, seval, *]
  have g2 : Hs n2 = some (.r 24 5 1 [[.c (.int .i64 0), .c (.int .i64 0), .c (.slice none 0 0), .c (.int .i64 0), .c (.int .i64 0)]]) := by rw [hHs]; exact upd_same _ _ _
  have n12 : ¬ n1 = n2 := h2.1.2
  have n21 : ¬ n2 = n1 := h2.1.1
  have hH1 : H n1 = none := h1
  have hH2 : H n2 = none := h2.2
  have hnn : Hs n = none := by rw [hHs]; simp only [upd_none2]; exact ⟨hn.1, hn.2.1, hn.2.2⟩
  have hle : Heap.le H Hs := by rw [hHs]; (repeat' (first | exact Heap.le_refl _ | refine hle_upd2 ?_ _ _ | (refine Heap.le_new ?_ ?_; rotate_left 1; focus (first | assumption | (simp only [upd_none2, upd_get, ne_eq, push_cast, seval, *]; done) | (simp [upd_get, *]; done)))))
  rw [← hHs]
  clear hHs h1 h2 hn
  refine does_appL rfl rfl rfl (OwnL.fresh hnn) tE22 tS3 tB3 tZ3 rfl (by decide) ?_ ?_ ?_
  · simp only [List.length_map, List.length_nil, maxLen]; omega
  · simp only [List.length_map, List.length_nil]; omega
  intro x' G hown'
  have hcs' := hown'.cs
  rw [List.nil_append] at hown'
  have k1 := hown'.get g1
  have k2 := hown'.get g2
  have ht1 := hown'.turn g1 (.r 24 5 1 [[.c (.int .i64 t), .c (.int .i64 w), x', .c (.int .i64 A), .c (.int .i64 B)]])
  have g2' : upd Hs n1 (.r 24 5 1 [[.c (.int .i64 t), .c (.int .i64 w), x', .c (.int .i64 A), .c (.int .i64 B)]]) n2 = some (.r 24 5 1 [[.c (.int .i64 0), .c (.int .i64 0), .c (.slice none 0 0), .c (.int .i64 0), .c (.int .i64 0)]]) := by rw [upd_ne n21]; exact g2
  have ht2 := ht1.turn g2' (.r 24 5 1 [[.c (.int .i64 t), .c (.int .i64 w), x', .c (.int .i64 A), .c (.int .i64 B)]])
  have hle2 : Heap.le H (upd (upd Hs n1 (.r 24 5 1 [[.c (.int .i64 t), .c (.int .i64 w), x', .c (.int .i64 A), .c (.int .i64 B)]])) n2 (.r 24 5 1 [[.c (.int .i64 t), .c (.int .i64 w), x', .c (.int .i64 A), .c (.int .i64 B)]])) := fun q b hq => by
    have c1 : ¬ q = n1 := by rintro rfl; rw [hH1] at hq; cases hq
    have c2 : ¬ q = n2 := by rintro rfl; rw [hH2] at hq; cases hq
    rw [upd_ne c2, upd_ne c1]; exact hle q b hq
  clear hown' ht1 g1 g2 g2' hnn hle
  replace ht2 := Lib.hid ht2
  replace hle2 := Lib.hid hle2
  (try simp only [push_cast, seval, *])
  repeat' (first
    | refine AW_seq_kn fun K hK => ?_
    | refine AW_block ?_
    | ((first
      | refine AW_region E0 ?_ | refine AW_ret ?_ | refine AW_exit ?_ | refine AW_skip ?_ | unfold retQ); try simp only [push_cast, seval, *])
    | (apply AW_cond; (case hc => (simp only [push_cast, seval]; rfl)); all_goals (intro hc; first | (exfalso; simp only [push_cast, seval, *] at hc; done) | (exact absurd hc (by decide)) | ((try first | rw [Bool.not_true] at hc | rw [Bool.not_false] at hc); first | (with_reducible replace hc := tTT hc); clear hc | (with_reducible replace hc := tFF hc); clear hc | (have hp := hc; try simp only [decide_eq_true_eq, decide_eq_false_iff_not, bA, bB, bC, bD, bE, bF, bG, bH] at hp))))
    | (refine Kn.go hK ?_; clear hK K)
    | refine Kn.go (by assumption) ?_
    | (intro n hn; (try simp only [upd_none2, join_none_iff, ite_none, ne_eq] at hn); (try simp only [push_cast, seval, *]))
    | (intro hc)
    | fail)
  refine ⟨_, _, ((unhid ht2).weak fun F F' hF hi _ => ?_).trans (Weak.less (unhid hle2)), rfl, rfl⟩
  exact Imp.g (Imps.cons (Imp.refl hF _) id (Imps.cons (Imp.refl hF _) id (Imps.cons hi (fun _ => rfl) (Imps.cons (Imp.refl hF _) id (Imps.cons (Imp.refl hF _) id Imps.nil)))))

theorem rget_p (l : List KC) (hl : l.length ≤ maxLen) (r : Rec) : Pure Try.prog 55 [.g [.l 4 (l.map KC.av)], .g (Rec.av r)] (.g (CellD.av (getS l r))) := by
  intro H
  obtain ⟨C, hC⟩ : ∃ C, C = getS l r := ⟨_, rfl⟩
  rw [← hC]
  have hsm := fun k x => getS_some (l := l) (r := r) (k := k) (x := x)
  have hno := getS_none (l := l) (r := r)
  rw [← hC] at hno
  simp only [← hC] at hsm
  clear hC
  obtain ⟨s, k0, v⟩ := r
  obtain ⟨cn, ct⟩ := C
  simp only [Rec.av, CellD.av]
  replace hno := Lib.hid hno
  replace hsm := Lib.hid hsm
  unfold maxLen at hl
  refine ACall_of' Try.func55 rfl (Ent_of Try.func55 (by kernel_rfl) rfl) (by simp [Try.ntmps55]) ?_; simp only [Try.ntmps55, Try.results55]
  repeat' (first
    | refine AW_seq_kn fun K hK => ?_
    | refine AW_block ?_
    | ((first
      | refine AW_region E0 ?_ | refine AW_ret ?_ | refine AW_exit ?_ | refine AW_skip ?_ | unfold retQ); try simp only [push_cast, seval, *])
    | ((first | (apply AW_cond; (case hc => (simp only [push_cast, seval]; rfl))) | (apply ER_guard; (case hb => (simp only [push_cast, seval]; rfl)))); all_goals ((intro hc; first | (exfalso; simp only [push_cast, seval, *] at hc; done) | (exact absurd hc (by decide)) | ((try first | rw [Bool.not_true] at hc | rw [Bool.not_false] at hc); first | (with_reducible replace hc := tTT hc); clear hc | (with_reducible replace hc := tFF hc); clear hc | (have hp := hc; try simp only [decide_eq_true_eq, decide_eq_false_iff_not, bA, bB, bC, bD, bE, bF, bG, bH] at hp))) <;> try simp only [push_cast, seval, *]))
    | (refine Kn.go hK ?_; clear hK K)
    | refine Kn.go (by assumption) ?_
    | (intro n hn; (try simp only [upd_none2, join_none_iff, ite_none, ne_eq] at hn); (try simp only [push_cast, seval, *]))
    | (intro hc)
    | (apply ER_blk; (case hp => rfl); (case hb => (simp only [push_cast, seval]; rfl)); (case hd => (simp only [push_cast, seval]; done)); (case h => (intro hc; simp only [push_cast, seval, *]; rfl)); simp only [push_cast, seval, *])
    | fail)
  rename_i n1 h1 n2 h2
  refine AW_loopN l.length (fun k => ∀ j y, j < k → l[j]? = some y → decide (cmpR (keyS y) ⟨s, k0, v⟩ = 0) = false) (fun k => [(3, .p n2 3 0 0), (4, .p n 2 0 0), (8, .l 4 (l.map KC.av)), (9, ci l.length), (10, ci k)]) (fun _ => upd (upd (upd H n1 (.r 49 1 1 [[.l 4 (l.map KC.av)]])) n2 (.r 54 3 1 [[.c (.int .i64 s), .c (.int .i64 k0), .c (.int .i64 v)]])) n (.r 26 2 1 [[.c (.int .i64 0), .c (.int .i64 0)]])) (fun j y hj => by omega) ?_ ?_ ?_ ?_
  · (first | trivial | (simp only [push_cast, seval, *]; done))
  · (first | trivial | ((simp only [push_cast, seval, *]); repeat' (first | rfl | exact Heap.le_refl _ | refine And.intro ?_ ?_)) | rfl | exact ⟨rfl, rfl⟩ | exact ⟨rfl, rfl, rfl⟩ | exact Heap.le_refl _)
  · intro k hk hinv
    obtain ⟨x, hx⟩ : ∃ x, l[k]? = some x := ⟨_, List.getElem?_eq_getElem hk⟩
    have hsx := unhid hsm k x hx
    have hstep : decide (cmpR (keyS x) ⟨s, k0, v⟩ = 0) = false → ∀ j y, j < k + 1 → l[j]? = some y → decide (cmpR (keyS y) ⟨s, k0, v⟩ = 0) = false := fun h j y hj hy => by
      by_cases e : j = k
      · subst e; rw [hx] at hy; cases hy; exact h
      · exact hinv j y (by omega) hy
    have hz := cmpR_zero (a := keyS x) (b := ⟨s, k0, v⟩)
    have hkI : (k : Int) < l.length := by omega
    have hkw : IntKind.i64.wrap ((k : Int) + 1) = (k : Int) + 1 := wrap_i64 (by omega) (by omega)
    have htx : List.take 4 (KC.av x) = KC.av x := rfl
    obtain ⟨xs, xk, xn, xt⟩ := x
    simp only [keyS] at hz
    have hs2 : xs = s ∧ xk = k0 → cn = xn ∧ ct = xt := fun h => by
      have hv := hsx (decide_eq_true (hz.2 h)) hinv
      unfold cellK at hv; injection hv; exact ⟨‹_›, ‹_›⟩
    have hs3 : ¬ (xs = s ∧ xk = k0) → ∀ j y, j < k + 1 → l[j]? = some y → decide (cmpR (keyS y) ⟨s, k0, v⟩ = 0) = false := fun h => hstep (decide_eq_false fun e => h (hz.1 e))
    clear hsx hstep hz hinv hsm hno
    replace hs2 := Lib.hid hs2
    replace hs3 := Lib.hid hs3
    by_cases c1 : xs = s
    · by_cases c2 : xk = k0
      · obtain ⟨rfl, rfl⟩ := unhid hs2 ⟨c1, c2⟩
        subst c1 c2
        repeat' (first
    | refine AW_seq_kn fun K hK => ?_
    | refine AW_block ?_
    | ((first
      | refine AW_region E0 ?_ | refine AW_ret ?_ | refine AW_exit ?_ | refine AW_skip ?_ | unfold retQ); try simp only [push_cast, seval, *])
    | ((first | (apply AW_cond; (case hc => (simp only [push_cast, seval]; rfl))) | (apply ER_guard; (case hb => (simp only [push_cast, seval]; rfl)))); all_goals ((intro hc; first | (exfalso; simp only [push_cast, seval, *] at hc; done) | (exact absurd hc (by decide)) | ((try first | rw [Bool.not_true] at hc | rw [Bool.not_false] at hc); first | (with_reducible replace hc := tTT hc); clear hc | (with_reducible replace hc := tFF hc); clear hc | (have hp := hc; try simp only [decide_eq_true_eq, decide_eq_false_iff_not, bA, bB, bC, bD, bE, bF, bG, bH] at hp))) <;> try simp only [push_cast, seval, *]))
    | (refine Kn.go hK ?_; clear hK K)
    | refine Kn.go (by assumption) ?_
    | (intro n hn; (try simp only [upd_none2, join_none_iff, ite_none, ne_eq] at hn); (try simp only [push_cast, seval, *]))
    | (intro hc)
    | (apply ER_blk; (case hp => rfl); (case hb => (simp only [push_cast, seval]; rfl)); (case hd => (simp only [push_cast, seval]; done)); (case h => (intro hc; simp only [push_cast, seval, *]; rfl)); simp only [push_cast, seval, *])
    | fail)
        exact ⟨_, _, Weak.less (by (simp only [push_cast, seval, *])), rfl, rfl⟩
      · have c1T : (xs = s) = True := by simp [c1]
        have c2F : (xk = k0) = False := by simp [c2]
        have hh := unhid hs3 (fun h => c2 h.2)
        replace hh := Lib.hid hh
        clear c1 c2
        repeat' (first
    | refine AW_seq_kn fun K hK => ?_
    | refine AW_block ?_
    | ((first
      | refine AW_region E0 ?_ | refine AW_ret ?_ | refine AW_exit ?_ | refine AW_skip ?_ | unfold retQ); try simp only [push_cast, seval, *])
    | ((first | (apply AW_cond; (case hc => (simp only [push_cast, seval]; rfl))) | (apply ER_guard; (case hb => (simp only [push_cast, seval]; rfl)))); all_goals ((intro hc; first | (exfalso; simp only [push_cast, seval, *] at hc; done) | (exact absurd hc (by decide)) | ((try first | rw [Bool.not_true] at hc | rw [Bool.not_false] at hc); first | (with_reducible replace hc := tTT hc); clear hc | (with_reducible replace hc := tFF hc); clear hc | (have hp := hc; try simp only [decide_eq_true_eq, decide_eq_false_iff_not, bA, bB, bC, bD, bE, bF, bG, bH] at hp))) <;> try simp only [push_cast, seval, *]))
    | (refine Kn.go hK ?_; clear hK K)
    | refine Kn.go (by assumption) ?_
    | (intro n hn; (try simp only [upd_none2, join_none_iff, ite_none, ne_eq] at hn); (try simp only [push_cast, seval, *]))
    | (intro hc)
    | (apply ER_blk; (case hp => rfl); (case hb => (simp only [push_cast, seval]; rfl)); (case hd => (simp only [push_cast, seval]; done)); (case h => (intro hc; simp only [push_cast, seval, *]; rfl)); simp only [push_cast, seval, *])
    | fail)
        exact ⟨unhid hh, by (first | trivial | (simp only [push_cast, seval, *]; done)), by (simp only [push_cast, seval, *])⟩
    · have c1F : (xs = s) = False := by simp [c1]
      have hh := unhid hs3 (fun h => c1 h.1)
      replace hh := Lib.hid hh
      clear c1
      repeat' (first
    | refine AW_seq_kn fun K hK => ?_
    | refine AW_block ?_
    | ((first
      | refine AW_region E0 ?_ | refine AW_ret ?_ | refine AW_exit ?_ | refine AW_skip ?_ | unfold retQ); try simp only [push_cast, seval, *])
    | ((first | (apply AW_cond; (case hc => (simp only [push_cast, seval]; rfl))) | (apply ER_guard; (case hb => (simp only [push_cast, seval]; rfl)))); all_goals ((intro hc; first | (exfalso; simp only [push_cast, seval, *] at hc; done) | (exact absurd hc (by decide)) | ((try first | rw [Bool.not_true] at hc | rw [Bool.not_false] at hc); first | (with_reducible replace hc := tTT hc); clear hc | (with_reducible replace hc := tFF hc); clear hc | (have hp := hc; try simp only [decide_eq_true_eq, decide_eq_false_iff_not, bA, bB, bC, bD, bE, bF, bG, bH] at hp))) <;> try simp only [push_cast, seval, *]))
    | (refine Kn.go hK ?_; clear hK K)
    | refine Kn.go (by assumption) ?_
    | (intro n hn; (try simp only [upd_none2, join_none_iff, ite_none, ne_eq] at hn); (try simp only [push_cast, seval, *]))
    | (intro hc)
    | (apply ER_blk; (case hp => rfl); (case hb => (simp only [push_cast, seval]; rfl)); (case hd => (simp only [push_cast, seval]; done)); (case h => (intro hc; simp only [push_cast, seval, *]; rfl)); simp only [push_cast, seval, *])
    | fail)
      exact ⟨unhid hh, by (first | trivial | (simp only [push_cast, seval, *]; done)), by (simp only [push_cast, seval, *])⟩
  · intro hinv
    have hv := unhid hno (fun x hx => by
      obtain ⟨j, hj⟩ := List.getElem?_of_mem hx
      exact hinv j x (List.getElem?_eq_some_iff.1 hj).1 hj)
    obtain ⟨rfl, rfl⟩ : cn = 0 ∧ ct = 0 := by injection hv; exact ⟨‹_›, ‹_›⟩
    clear hinv hno hsm hv
    repeat' (first
    | refine AW_seq_kn fun K hK => ?_
    | refine AW_block ?_
    | ((first
      | refine AW_region E0 ?_ | refine AW_ret ?_ | refine AW_exit ?_ | refine AW_skip ?_ | unfold retQ); try simp only [push_cast, seval, *])
    | ((first | (apply AW_cond; (case hc => (simp only [push_cast, seval]; rfl))) | (apply ER_guard; (case hb => (simp only [push_cast, seval]; rfl)))); all_goals ((intro hc; first | (exfalso; simp only [push_cast, seval, *] at hc; done) | (exact absurd hc (by decide)) | ((try first | rw [Bool.not_true] at hc | rw [Bool.not_false] at hc); first | (with_reducible replace hc := tTT hc); clear hc | (with_reducible replace hc := tFF hc); clear hc | (have hp := hc; try simp only [decide_eq_true_eq, decide_eq_false_iff_not, bA, bB, bC, bD, bE, bF, bG, bH] at hp))) <;> try simp only [push_cast, seval, *]))
    | (refine Kn.go hK ?_; clear hK K)
    | refine Kn.go (by assumption) ?_
    | (intro n hn; (try simp only [upd_none2, join_none_iff, ite_none, ne_eq] at hn); (try simp only [push_cast, seval, *]))
    | (intro hc)
    | (apply ER_blk; (case hp => rfl); (case hb => (simp only [push_cast, seval]; rfl)); (case hd => (simp only [push_cast, seval]; done)); (case h => (intro hc; simp only [push_cast, seval, *]; rfl)); simp only [push_cast, seval, *])
    | fail)
    exact ⟨_, _, Weak.less (by (simp only [push_cast, seval, *])), rfl, rfl⟩

theorem tfits1_a (o : OpD) (hl : o.ins.length ≤ maxLen) (x : KC) (m : Nat) (H : Heap) (hm : H m = some (.r 24 5 1 [OpD.av o])) : ACall Try.prog 95 ([.g (KC.av x)] ++ [.p m 5 0 0]) H fun q H' => q = .c (.bool (!(aloneS o && fitsS o (cellK x)))) ∧ H' = H := by
  have hf := Fits_p o (cellK x) hl
  generalize (aloneS o && fitsS o (cellK x)) = R at *
  have hne := ne_old hm
  obtain ⟨t, w, l, A, B⟩ := o
  obtain ⟨xs, xk, xn, xt⟩ := x
  simp only [OpD.av, cellK, CellD.av] at hf hm
  simp only [KC.av, List.cons_append, List.nil_append]
  refine ACall_of' Try.func95 rfl (Ent_of Try.func95 (by kernel_rfl) rfl) (by simp [Try.ntmps95]) ?_; simp only [Try.ntmps95, Try.results95]
  ((repeat refine AW_seq_kn fun K hK => ?_); (first | (refine AW_region E0 ?_; simp only [push_cast, seval, *])); (repeat' (first | (intro n hn; (try simp only [upd_none2, join_none_iff, ite_none, ne_eq] at hn); (try simp only [push_cast, seval, *])))); refine Kn.go hK ?_; clear hK K)
  repeat' (first
    | refine AW_seq_kn fun K hK => ?_
    | refine AW_block ?_
    | (refine does_call rfl rfl ?_; simp only [push_cast, seval, *]; refine ACall.monoP (hf _) ?_; (try simp only [push_cast, seval, *]))
    | (refine does_call rfl rfl ?_; simp only [push_cast, seval, *]; refine ACall.monoP (Fits_p ⟨_, _, _, _, _⟩ ⟨_, _⟩ (by assumption) _) ?_; (try simp only [push_cast, seval, *]))
    | ((first
      | refine AW_region E0 ?_ | refine AW_ret ?_ | refine AW_exit ?_ | refine AW_skip ?_ | unfold retQ); try simp only [push_cast, seval, *])
    | (apply AW_cond; (case hc => (simp only [push_cast, seval]; rfl)); all_goals (intro hc; first | (exfalso; simp only [push_cast, seval, *] at hc; done) | (exact absurd hc (by decide)) | ((try first | rw [Bool.not_true] at hc | rw [Bool.not_false] at hc); first | (with_reducible replace hc := tTT hc); clear hc | (with_reducible replace hc := tFF hc); clear hc | (have hp := hc; try simp only [decide_eq_true_eq, decide_eq_false_iff_not, bA, bB, bC, bD, bE, bF, bG, bH] at hp))))
    | (refine Kn.go hK ?_; clear hK K)
    | refine Kn.go (by assumption) ?_
    | (intro n hn; (try simp only [upd_none2, join_none_iff, ite_none, ne_eq] at hn); (try simp only [push_cast, seval, *]))
    | (intro hc)
    | fail)
  exact ⟨_, _, Weak.less (by (simp only [push_cast, seval, *])), rfl, rfl⟩
def fitsT (o : OpD) (l : List KC) : Bool := tOk l && (aloneS o && l.all fun x => fitsS o (cellK x))
theorem fitsT_any (o : OpD) (l : List KC) : (tOk l && (aloneS o && !(l.any fun x => !(aloneS o && fitsS o (cellK x))))) = fitsT o l := by
  unfold fitsT
  cases aloneS o
  · simp
  · simp [List.all_eq_not_any_not]
end Go.Proofs.Ytmkncbddjnaklaa
