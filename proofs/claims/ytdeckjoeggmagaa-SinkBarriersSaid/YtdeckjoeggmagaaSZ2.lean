/- Walks: the document's Told. -/
import Derived.Test.YtdeckjoeggmagaaSZ1
namespace Go.Proofs.Ytdeckjoeggmagaa
open Go.RowKit
open Nat renaming reduceEqDiff → nA, reduceLT → nB, reduceLeDiff → nC, reduceAdd → nD, reduceMul → nE, reduceSub → nF, reduceBEq → nG
open Int renaming reduceToNat → iA, reduceLT → iB, reduceLE → iC, reduceEq → iD
open Bool renaming and_eq_true → bA, or_eq_true → bB, or_eq_false_iff → bC, and_eq_false_iff → bD, not_eq_true' → bE, not_eq_false' → bF, not_true → bG, not_false → bH
set_option linter.all false
set_option maxHeartbeats 4000000
attribute [local irreducible] AW Does ACall tE tS tB tZ
def dLSZ20 : List En := [(0, false, []), (1, false, []), (2, false, []), (3, false, []), (4, false, []), (5, false, []), (6, false, []), (7, false, []), (8, false, []), (9, false, [])]
def dASZ20 : List (List Nat) := [[], [], [0, 1], [0, 1, 2], [], [4], [], [4, 5, 6], [4, 5, 6, 7], [0, 1, 2, 3, 4, 5, 6, 7, 8]]
attribute [push_cast] dLSZ20
set_option maxRecDepth 5000

def metN (names : List Nm) (x : Nm) (j : Nat) : Bool := decide (x ∈ names.take j)
theorem metN_hit {names : List Nm} {x : Nm} {j : Nat} (h : names[j]? = some x) : metN names x (j + 1) = true := by
  unfold metN; rw [take_snoc h]; simp
theorem metN_miss {names : List Nm} {x y : Nm} {j : Nat} (h : names[j]? = some y) (hne : ¬ y = x) : metN names x (j + 1) = metN names x j := by
  unfold metN; rw [take_snoc h, decide_eq_decide]; simp only [List.mem_append, List.mem_singleton]
  exact ⟨fun q => q.elim id fun e => absurd e.symm hne, .inl⟩
theorem refTold17_p (s : Sk) (hl : s.rdy.length ≤ 1000000) (names : List Nm) (hnl : names.length ≤ maxLen) : Pure Try.prog 52 [.g (Sk.av s), .l 3 (names.map Nm.av)] (.g (Sk.av { s with rdy := s.rdy.filter (toldK names) })) := by
  intro H
  unfold maxLen at hnl
  obtain ⟨a, b, c, d, l⟩ := s
  simp only at hl
  simp only [Sk.av]
  have hE := tE22
  have hS := tS26
  have hB := tB26
  have hZ := tZ26
  obtain ⟨F, hF⟩ : ∃ F : Nat → List Nm, F = fun k => (l.take k).filter (toldK names) := ⟨_, rfl⟩
  have hF0 : F 0 = [] := by rw [hF]; rfl
  have hFe : F l.length = l.filter (toldK names) := by rw [hF]; simp only [List.take_length]
  have hFl : ∀ k, (F k).length ≤ l.length := fun k => by rw [hF]; exact Nat.le_trans (List.length_filter_le _ _) (by rw [List.length_take]; omega)
  have hFt : ∀ k x, l[k]? = some x → metN names x names.length = true → F (k + 1) = F k := fun k x h hm => by
    rw [hF]; simp only [take_snoc h, List.filter_append]
    have : toldK names x = false := by unfold metN at hm; rw [List.take_length] at hm; simp only [toldK, hm, Bool.not_true]
    simp [this]
  have hFf : ∀ k x, l[k]? = some x → metN names x names.length = false → F (k + 1) = F k ++ [x] := fun k x h hm => by
    rw [hF]; simp only [take_snoc h, List.filter_append]
    have : toldK names x = true := by unfold metN at hm; rw [List.take_length] at hm; simp only [toldK, hm, Bool.not_false]
    simp [this]
  rw [← hFe]
  clear hF hFe
  replace hFt := Lib.hid hFt
  replace hFf := Lib.hid hFf
  replace hFl := Lib.hid hFl
  refine ACall_of' Try.func52 rfl (Ent_of Try.func52 (by kernel_rfl) rfl) (by simp [Try.ntmps52]) ?_; simp only [Try.ntmps52, Try.results52]
  repeat' (first
    | refine AW_seq_kn fun K hK => ?_
    | refine AW_block ?_
    | ((first
      | refine AW_region_draw (id := 9) E0 (fun f => [].contains f) dLSZ20 dASZ20 mixed (by kernel_rfl) ?_
      | refine AW_region E0 ?_ | refine AW_ret ?_ | refine AW_exit ?_ | refine AW_skip ?_ | unfold retQ); try simp only [push_cast, seval, *])
    | (apply AW_cond; (case hc => (simp only [push_cast, seval]; rfl)); all_goals (intro hc; first | (exfalso; simp only [push_cast, seval, *] at hc; done) | (exact absurd hc (by decide)) | ((try first | rw [Bool.not_true] at hc | rw [Bool.not_false] at hc); first | (with_reducible replace hc := tTT hc); clear hc | (with_reducible replace hc := tFF hc); clear hc | (have hp := hc; try simp only [decide_eq_true_eq, decide_eq_false_iff_not, bA, bB, bC, bD, bE, bF, bG, bH] at hp))))
    | (refine Kn.go hK ?_; clear hK K)
    | refine Kn.go (by assumption) ?_
    | (intro n hn; (try simp only [upd_none2, join_none_iff, ite_none, ne_eq] at hn); (try simp only [push_cast, seval, *]))
    | (intro hc)
    | fail)
  rename_i n2 h2
  generalize n = n4 at *
  obtain ⟨G, hG⟩ : ∃ G : Heap, G = upd (upd H n2 (.r 34 5 1 [[.c (.int .i64 a), .c (.int .i64 b), .c (.int .i64 c), .c (.bool d), .l 3 (l.map Nm.av)]])) n4 (.r 34 5 1 [[.c (.int .i64 0), .c (.int .i64 0), .c (.int .i64 0), .c (.bool false), .c (.slice none 0 0)]]) := ⟨_, rfl⟩
  have o24 : ¬ n2 = n4 := hn.1.2
  have o42 : ¬ n4 = n2 := hn.1.1
  have g2 : G n2 = some (.r 34 5 1 [[.c (.int .i64 a), .c (.int .i64 b), .c (.int .i64 c), .c (.bool d), .l 3 (l.map Nm.av)]]) := by rw [hG, upd_ne o24, upd_same]
  have g4 : G n4 = some (.r 34 5 1 [[.c (.int .i64 0), .c (.int .i64 0), .c (.int .i64 0), .c (.bool false), .c (.slice none 0 0)]]) := by rw [hG, upd_same]
  have hle : ∀ x z : Blk, Heap.le H (upd (upd G n2 x) n4 z) := fun x z => by
    intro q u hq
    have c1 : q ≠ n2 := by rintro rfl; rw [h2] at hq; cases hq
    have c3 : q ≠ n4 := by rintro rfl; rw [hn.2] at hq; cases hq
    simp only [hG, upd_get, if_neg c1, if_neg c3]; exact hq
  rw [← hG]
  clear hG h2 hn
  replace hle := Lib.hid hle
  refine AW_loopX (σ := AV × Heap) l.length (fun k s => OwnL s.2 s.1 26 3 ((F k).map Nm.av) G) (fun k s => [(1, .l 3 (names.map Nm.av)), (2, .p n2 5 0 0), (4, .p n4 5 0 0), (5, s.1), (6, ci k)]) (fun _ s => s.2) (.c (.slice none 0 0), G) (by rw [hF0]; exact OwnL.nil _ _ _) ?_ ?_ ?_ ?_
  · (first | trivial | (simp only [push_cast, seval, *]; done))
  · exact Heap.le_refl _
  · rintro k ⟨z, Hs⟩ hk ho
    simp only at ho
    have hx := List.getElem?_eq_getElem (l := l) hk; generalize l[k] = x at hx; have hxm := List.mem_of_getElem? hx; have hkl : (k : Int) < l.length := (by omega); have hkw : IntKind.i64.wrap ((k : Int) + 1) = (k : Int) + 1 := wrap_i64 (by omega) (by omega)
    have k2 := ho.get g2
    have k4 := ho.get g4
    have r2 := ne_old k2
    have zcs := ho.cs
    have zone := ho.one
    replace ho := Lib.hid ho
    have hmt := unhid hFt k x hx
    have hmf := unhid hFf k x hx
    have hhit := fun j (h : names[j]? = some x) => metN_hit h
    have hmis := fun j y (h : names[j]? = some y) (hne : ¬ y = x) => metN_miss h hne
    have hm0 : metN names x 0 = false := by unfold metN; simp
    have hfl := unhid hFl k
    generalize metN names x = M at *
    obtain ⟨x1, x2, x3⟩ := x
    replace hmt := Lib.hid hmt
    replace hmf := Lib.hid hmf
    replace hhit := Lib.hid hhit
    replace hmis := Lib.hid hmis
    repeat' (first
    | refine AW_seq_kn fun K hK => ?_
    | refine AW_block ?_
    | ((first
      | refine AW_region_draw (id := 9) E0 (fun f => [].contains f) dLSZ20 dASZ20 mixed (by kernel_rfl) ?_
      | refine AW_region E0 ?_ | refine AW_ret ?_ | refine AW_exit ?_ | refine AW_skip ?_ | unfold retQ); try simp only [push_cast, seval, *])
    | (apply AW_cond; (case hc => (simp only [push_cast, seval]; rfl)); all_goals (intro hc; first | (exfalso; simp only [push_cast, seval, *] at hc; done) | (exact absurd hc (by decide)) | ((try first | rw [Bool.not_true] at hc | rw [Bool.not_false] at hc); first | (with_reducible replace hc := tTT hc); clear hc | (with_reducible replace hc := tFF hc); clear hc | (have hp := hc; try simp only [decide_eq_true_eq, decide_eq_false_iff_not, bA, bB, bC, bD, bE, bF, bG, bH] at hp))))
    | (refine Kn.go hK ?_; clear hK K)
    | refine Kn.go (by assumption) ?_
    | (intro n hn; (try simp only [upd_none2, join_none_iff, ite_none, ne_eq] at hn); (try simp only [push_cast, seval, *]))
    | (intro hc)
    | fail)
    refine AW_loopN names.length (fun _ => True) (fun j => [(1, .l 3 (names.map Nm.av)), (2, .p n2 5 0 0), (4, .p n4 5 0 0), (5, z), (6, ci k), (7, .c (.bool (M j))), (8, ci j)]) (fun _ => Hs) trivial ?_ ?_ ?_ ?_
    · (first | trivial | (simp only [push_cast, seval, *]; done))
    · exact Heap.le_refl _
    · intro j hj _
      have hy := List.getElem?_eq_getElem (l := names) hj; generalize names[j] = y at hy; have hym := List.mem_of_getElem? hy; have hjl : (j : Int) < names.length := (by omega); have hjw : IntKind.i64.wrap ((j : Int) + 1) = (j : Int) + 1 := wrap_i64 (by omega) (by omega)
      have hh := unhid hhit j
      have hm := unhid hmis j y hy
      obtain ⟨y1, y2, y3⟩ := y
      by_cases e : y1 = x1 ∧ y2 = x2 ∧ y3 = x3
      · obtain ⟨rfl, rfl, rfl⟩ := e
        have hM := hh hy
        clear hh hm
        repeat' (first
    | refine AW_seq_kn fun K hK => ?_
    | refine AW_block ?_
    | ((first
      | refine AW_region_draw (id := 9) E0 (fun f => [].contains f) dLSZ20 dASZ20 mixed (by kernel_rfl) ?_
      | refine AW_region E0 ?_ | refine AW_ret ?_ | refine AW_exit ?_ | refine AW_skip ?_ | unfold retQ); try simp only [push_cast, seval, *])
    | (apply AW_cond; (case hc => (simp only [push_cast, seval]; rfl)); all_goals (intro hc; first | (exfalso; simp only [push_cast, seval, *] at hc; done) | (exact absurd hc (by decide)) | ((try first | rw [Bool.not_true] at hc | rw [Bool.not_false] at hc); first | (with_reducible replace hc := tTT hc); clear hc | (with_reducible replace hc := tFF hc); clear hc | (have hp := hc; try simp only [decide_eq_true_eq, decide_eq_false_iff_not, bA, bB, bC, bD, bE, bF, bG, bH] at hp))))
    | (refine Kn.go hK ?_; clear hK K)
    | refine Kn.go (by assumption) ?_
    | (intro n hn; (try simp only [upd_none2, join_none_iff, ite_none, ne_eq] at hn); (try simp only [push_cast, seval, *]))
    | (intro hc)
    | fail)
        first | exact ⟨trivial, trivial, trivial⟩ | exact ⟨trivial, by (first | trivial | (simp only [push_cast, seval, *]; done)), by (repeat' (first | exact Heap.le_refl _ | refine hle_upd2 ?_ _ _ | (refine Heap.le_new ?_ ?_; rotate_left 1; focus (first | assumption | (simp only [upd_none2, upd_get, ne_eq, push_cast, seval, *]; done) | (simp [upd_get, *]; done)))))⟩
      · have hM := hm (fun q => e (by cases q; exact ⟨rfl, rfl, rfl⟩))
        have hd : (decide (y1 = x1) && (decide (y2 = x2) && decide (y3 = x3))) = false := by
          rw [← Bool.not_eq_true]; simp only [Bool.and_eq_true, decide_eq_true_eq]; exact e
        clear hh hm e
        repeat' (first
    | refine AW_seq_kn fun K hK => ?_
    | refine AW_block ?_
    | ((first
      | refine AW_region_draw (id := 9) E0 (fun f => [].contains f) dLSZ20 dASZ20 mixed (by kernel_rfl) ?_
      | refine AW_region E0 ?_ | refine AW_ret ?_ | refine AW_exit ?_ | refine AW_skip ?_ | unfold retQ); try simp only [push_cast, seval, *])
    | (apply AW_cond; (case hc => (simp only [push_cast, seval]; rfl)); all_goals (intro hc; first | (exfalso; simp only [push_cast, seval, *] at hc; done) | (exact absurd hc (by decide)) | ((try first | rw [Bool.not_true] at hc | rw [Bool.not_false] at hc); first | (with_reducible replace hc := tTT hc); clear hc | (with_reducible replace hc := tFF hc); clear hc | (have hp := hc; try simp only [decide_eq_true_eq, decide_eq_false_iff_not, bA, bB, bC, bD, bE, bF, bG, bH] at hp))))
    | (refine Kn.go hK ?_; clear hK K)
    | refine Kn.go (by assumption) ?_
    | (intro n hn; (try simp only [upd_none2, join_none_iff, ite_none, ne_eq] at hn); (try simp only [push_cast, seval, *]))
    | (intro hc)
    | fail)
        first | exact ⟨trivial, trivial, trivial⟩ | exact ⟨trivial, by (first | trivial | (simp only [push_cast, seval, *]; done)), by (repeat' (first | exact Heap.le_refl _ | refine hle_upd2 ?_ _ _ | (refine Heap.le_new ?_ ?_; rotate_left 1; focus (first | assumption | (simp only [upd_none2, upd_get, ne_eq, push_cast, seval, *]; done) | (simp [upd_get, *]; done)))))⟩
    · intro _
      cases hMn : M names.length
      · have hs2 := unhid hmf hMn
        have hsn : (F (k + 1)).map Nm.av = (F k).map Nm.av ++ [Nm.av ⟨x1, x2, x3⟩] := by rw [hs2]; simp
        simp only [Nm.av] at hsn
        replace hsn := Lib.hid hsn
        clear hs2
        repeat' (first
    | refine AW_seq_kn fun K hK => ?_
    | refine AW_block ?_
    | ((first
      | refine AW_region_draw (id := 9) E0 (fun f => [].contains f) dLSZ20 dASZ20 mixed (by kernel_rfl) ?_
      | refine AW_region E0 ?_ | refine AW_ret ?_ | refine AW_exit ?_ | refine AW_skip ?_ | unfold retQ); try simp only [push_cast, seval, *])
    | (apply AW_cond; (case hc => (simp only [push_cast, seval]; rfl)); all_goals (intro hc; first | (exfalso; simp only [push_cast, seval, *] at hc; done) | (exact absurd hc (by decide)) | ((try first | rw [Bool.not_true] at hc | rw [Bool.not_false] at hc); first | (with_reducible replace hc := tTT hc); clear hc | (with_reducible replace hc := tFF hc); clear hc | (have hp := hc; try simp only [decide_eq_true_eq, decide_eq_false_iff_not, bA, bB, bC, bD, bE, bF, bG, bH] at hp))))
    | (refine Kn.go hK ?_; clear hK K)
    | refine Kn.go (by assumption) ?_
    | (intro n hn; (try simp only [upd_none2, join_none_iff, ite_none, ne_eq] at hn); (try simp only [push_cast, seval, *]))
    | (intro hc)
    | fail)
        refine does_app1 rfl rfl rfl rfl (unhid ho) (by simp only [upd_none2, push_cast, seval, *]) hE hS hB hZ rfl (by decide) (by simp only [List.length_map, maxLen]; omega) (by simp only [List.length_map]; omega) ?_
        intro z2 H2 hz2
        rw [← unhid hsn] at hz2
        have zcs2 := hz2.cs
        have zone2 := hz2.one
        replace hz2 := Lib.hid hz2
        clear k2 k4 r2 zcs zone
        (try simp only [push_cast, seval, *])
        repeat' (first
    | refine AW_seq_kn fun K hK => ?_
    | refine AW_block ?_
    | ((first
      | refine AW_region_draw (id := 9) E0 (fun f => [].contains f) dLSZ20 dASZ20 mixed (by kernel_rfl) ?_
      | refine AW_region E0 ?_ | refine AW_ret ?_ | refine AW_exit ?_ | refine AW_skip ?_ | unfold retQ); try simp only [push_cast, seval, *])
    | (apply AW_cond; (case hc => (simp only [push_cast, seval]; rfl)); all_goals (intro hc; first | (exfalso; simp only [push_cast, seval, *] at hc; done) | (exact absurd hc (by decide)) | ((try first | rw [Bool.not_true] at hc | rw [Bool.not_false] at hc); first | (with_reducible replace hc := tTT hc); clear hc | (with_reducible replace hc := tFF hc); clear hc | (have hp := hc; try simp only [decide_eq_true_eq, decide_eq_false_iff_not, bA, bB, bC, bD, bE, bF, bG, bH] at hp))))
    | (refine Kn.go hK ?_; clear hK K)
    | refine Kn.go (by assumption) ?_
    | (intro n hn; (try simp only [upd_none2, join_none_iff, ite_none, ne_eq] at hn); (try simp only [push_cast, seval, *]))
    | (intro hc)
    | fail)
        exact ⟨(z2, H2), unhid hz2, by (first | trivial | (simp only [push_cast, seval, *]; done)), by first | trivial | exact Heap.le_refl _⟩
      · have hs2 := unhid hmt hMn
        repeat' (first
    | refine AW_seq_kn fun K hK => ?_
    | refine AW_block ?_
    | ((first
      | refine AW_region_draw (id := 9) E0 (fun f => [].contains f) dLSZ20 dASZ20 mixed (by kernel_rfl) ?_
      | refine AW_region E0 ?_ | refine AW_ret ?_ | refine AW_exit ?_ | refine AW_skip ?_ | unfold retQ); try simp only [push_cast, seval, *])
    | (apply AW_cond; (case hc => (simp only [push_cast, seval]; rfl)); all_goals (intro hc; first | (exfalso; simp only [push_cast, seval, *] at hc; done) | (exact absurd hc (by decide)) | ((try first | rw [Bool.not_true] at hc | rw [Bool.not_false] at hc); first | (with_reducible replace hc := tTT hc); clear hc | (with_reducible replace hc := tFF hc); clear hc | (have hp := hc; try simp only [decide_eq_true_eq, decide_eq_false_iff_not, bA, bB, bC, bD, bE, bF, bG, bH] at hp))))
    | (refine Kn.go hK ?_; clear hK K)
    | refine Kn.go (by assumption) ?_
    | (intro n hn; (try simp only [upd_none2, join_none_iff, ite_none, ne_eq] at hn); (try simp only [push_cast, seval, *]))
    | (intro hc)
    | fail)
        exact ⟨(z, Hs), unhid ho, by (first | trivial | (simp only [push_cast, seval, *]; done)), by first | trivial | exact Heap.le_refl _⟩
  · rintro ⟨z, Hs⟩ ho
    simp only at ho
    have k2 := ho.get g2
    have k4 := ho.get g4
    have zcs := ho.cs
    have zone := ho.one
    replace ho := Lib.hid ho
    repeat' (first
    | refine AW_seq_kn fun K hK => ?_
    | refine AW_block ?_
    | ((first
      | refine AW_region_draw (id := 9) E0 (fun f => [].contains f) dLSZ20 dASZ20 mixed (by kernel_rfl) ?_
      | refine AW_region E0 ?_ | refine AW_ret ?_ | refine AW_exit ?_ | refine AW_skip ?_ | unfold retQ); try simp only [push_cast, seval, *])
    | (apply AW_cond; (case hc => (simp only [push_cast, seval]; rfl)); all_goals (intro hc; first | (exfalso; simp only [push_cast, seval, *] at hc; done) | (exact absurd hc (by decide)) | ((try first | rw [Bool.not_true] at hc | rw [Bool.not_false] at hc); first | (with_reducible replace hc := tTT hc); clear hc | (with_reducible replace hc := tFF hc); clear hc | (have hp := hc; try simp only [decide_eq_true_eq, decide_eq_false_iff_not, bA, bB, bC, bD, bE, bF, bG, bH] at hp))))
    | (refine Kn.go hK ?_; clear hK K)
    | refine Kn.go (by assumption) ?_
    | (intro n hn; (try simp only [upd_none2, join_none_iff, ite_none, ne_eq] at hn); (try simp only [push_cast, seval, *]))
    | (intro hc)
    | fail)
    exact ⟨_, _, Weak.trans ((((unhid ho).turn g2 _).turn (by rw [upd_ne o42]; exact g4) _).weak (fun F F' hF hi _ => Imp.g (Imps.cons (Imp.refl hF _) id (Imps.cons (Imp.refl hF _) id (Imps.cons (Imp.refl hF _) id (Imps.cons (Imp.refl hF _) id (Imps.cons hi (fun _ => rfl) Imps.nil))))))) (Weak.less (unhid hle _ _)), rfl, rfl⟩
end Go.Proofs.Ytdeckjoeggmagaa
