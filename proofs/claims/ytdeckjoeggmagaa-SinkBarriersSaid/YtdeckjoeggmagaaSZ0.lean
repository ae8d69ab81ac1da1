/- Walks: the document's barrier. -/
import Derived.Test.YtdeckjoeggmagaaSI
import Derived.Test.YtdeckjoeggmagaaSK
import Derived.Test.YtdeckjoeggmagaaSF
namespace Go.Proofs.Ytdeckjoeggmagaa
open Go.RowKit
open Nat renaming reduceEqDiff → nA, reduceLT → nB, reduceLeDiff → nC, reduceAdd → nD, reduceMul → nE, reduceSub → nF, reduceBEq → nG
open Int renaming reduceToNat → iA, reduceLT → iB, reduceLE → iC, reduceEq → iD
open Bool renaming and_eq_true → bA, or_eq_true → bB, or_eq_false_iff → bC, and_eq_false_iff → bD, not_eq_true' → bE, not_eq_false' → bF, not_true → bG, not_false → bH
set_option linter.all false
set_option maxHeartbeats 4000000
attribute [local irreducible] AW Does ACall tE tS tB tZ
def dLSZ00 : List En := [(0, false, []), (1, true, []), (2, false, []), (4, false, [1, 3]), (3, false, []), (5, false, []), (6, false, [])]
def dASZ00 : List (List Nat) := [[], [], [1], [1, 2], [0], [0, 1, 2, 3, 4], [0, 1, 2, 3, 4, 5]]
attribute [push_cast] dLSZ00
set_option maxRecDepth 5000

theorem weak_zn {H : Heap} (e f : AV) : Weak (.t [e, .c (.slice none 0 0), f]) H (.t [e, .l 7 [], f]) H :=
  (OwnL.none' (H := H) (ad := none) (sz := 7) (ty := 0)).weak fun F F' hF hi _ => Imp.t (Imps.cons (Imp.refl hF _) id (Imps.cons (Imp.nil_l 7) (fun _ => rfl) (Imps.refl hF _)))
theorem refBarrier17_p (hright : ∀ s : Sk, s.rdy.length ≤ maxLen → Pure Try.prog 38 [.g (Sk.av s)] (.c (.bool (skOk s)))) (s : Sk) (hl : s.rdy.length ≤ maxLen) : Pure Try.prog 49 [.g (Sk.av s)] (.t [.g (Sk.av (barSk s).1), .l 7 ((barSk s).2.1.map Act.av), .c (.int .i64 (barSk s).2.2.2)]) := by
  intro H
  have hck := hright s hl
  unfold barSk
  clear hright
  cases hok : skOk s
  · rw [hok] at hck
    simp only [if_true] at hck ⊢
    obtain ⟨a, b, c, d, l⟩ := s
    simp only [Sk.av, zeroSk, List.map_nil] at hck ⊢
    clear hok
    refine ACall_of' Try.func49 rfl (Ent_of Try.func49 (by kernel_rfl) rfl) (by simp [Try.ntmps49]) ?_; simp only [Try.ntmps49, Try.results49]
    repeat' (first
    | refine AW_seq_kn fun K hK => ?_
    | refine AW_block ?_
    | (refine does_call rfl rfl ?_; simp only [push_cast, seval, *]; refine ACall.monoP (hck _) ?_; (try simp only [push_cast, seval, *]))
    | ((first
      | refine AW_region_draw (id := 15) E0 (fun f => [].contains f) dLSZ00 dASZ00 mixed (by kernel_rfl) ?_
      | refine AW_region E0 ?_ | refine AW_ret ?_ | refine AW_exit ?_ | refine AW_skip ?_ | unfold retQ); try simp only [push_cast, seval, *])
    | (apply AW_cond; (case hc => (simp only [push_cast, seval]; rfl)); all_goals (intro hc; first | (exfalso; simp only [push_cast, seval, *] at hc; done) | (exact absurd hc (by decide)) | ((try first | rw [Bool.not_true] at hc | rw [Bool.not_false] at hc); first | (with_reducible replace hc := tTT hc); clear hc | (with_reducible replace hc := tFF hc); clear hc | (have hp := hc; try simp only [decide_eq_true_eq, decide_eq_false_iff_not, bA, bB, bC, bD, bE, bF, bG, bH] at hp))))
    | (refine Kn.go hK ?_; clear hK K)
    | refine Kn.go (by assumption) ?_
    | (intro n hn; (try simp only [upd_none2, join_none_iff, ite_none, ne_eq] at hn); (try simp only [push_cast, seval, *]))
    | (intro hc)
    | fail)
    exact ⟨_, _, Weak.trans (Weak.less (by (repeat' (first | exact Heap.le_refl _ | refine hle_upd2 ?_ _ _ | (refine Heap.le_new ?_ ?_; rotate_left 1; focus (first | assumption | (simp only [upd_none2, upd_get, ne_eq, push_cast, seval, *]; done) | (simp [upd_get, *]; done))))))) (weak_zw _), rfl, rfl⟩
  rw [hok] at hck
  simp only [Bool.true_eq_false, if_false] at hck ⊢
  obtain ⟨-, -, hbd, -, hll⟩ := skOk_bd hok
  obtain ⟨a, b, c, d, l⟩ := s
  simp only at hbd hll
  simp only [Sk.av, nameS] at hck ⊢
  clear hok hl
  cases d
  · simp only [if_true, List.map_nil]
    refine ACall_of' Try.func49 rfl (Ent_of Try.func49 (by kernel_rfl) rfl) (by simp [Try.ntmps49]) ?_; simp only [Try.ntmps49, Try.results49]
    repeat' (first
    | refine AW_seq_kn fun K hK => ?_
    | refine AW_block ?_
    | (refine does_call rfl rfl ?_; simp only [push_cast, seval, *]; refine ACall.monoP (hck _) ?_; (try simp only [push_cast, seval, *]))
    | ((first
      | refine AW_region_draw (id := 15) E0 (fun f => [].contains f) dLSZ00 dASZ00 mixed (by kernel_rfl) ?_
      | refine AW_region E0 ?_ | refine AW_ret ?_ | refine AW_exit ?_ | refine AW_skip ?_ | unfold retQ); try simp only [push_cast, seval, *])
    | (apply AW_cond; (case hc => (simp only [push_cast, seval]; rfl)); all_goals (intro hc; first | (exfalso; simp only [push_cast, seval, *] at hc; done) | (exact absurd hc (by decide)) | ((try first | rw [Bool.not_true] at hc | rw [Bool.not_false] at hc); first | (with_reducible replace hc := tTT hc); clear hc | (with_reducible replace hc := tFF hc); clear hc | (have hp := hc; try simp only [decide_eq_true_eq, decide_eq_false_iff_not, bA, bB, bC, bD, bE, bF, bG, bH] at hp))))
    | (refine Kn.go hK ?_; clear hK K)
    | refine Kn.go (by assumption) ?_
    | (intro n hn; (try simp only [upd_none2, join_none_iff, ite_none, ne_eq] at hn); (try simp only [push_cast, seval, *]))
    | (intro hc)
    | fail)
    exact ⟨_, _, Weak.trans (Weak.less (by (repeat' (first | exact Heap.le_refl _ | refine hle_upd2 ?_ _ _ | (refine Heap.le_new ?_ ?_; rotate_left 1; focus (first | assumption | (simp only [upd_none2, upd_get, ne_eq, push_cast, seval, *]; done) | (simp [upd_get, *]; done))))))) (weak_zn _ _), rfl, rfl⟩
  simp only [Bool.true_eq_false, if_false]
  by_cases h24 : l.length = 24
  · rw [if_pos h24]
    have h24I : (l.length : Int) = 24 := by omega
    simp only [zeroSk, List.map_nil]
    refine ACall_of' Try.func49 rfl (Ent_of Try.func49 (by kernel_rfl) rfl) (by simp [Try.ntmps49]) ?_; simp only [Try.ntmps49, Try.results49]
    repeat' (first
    | refine AW_seq_kn fun K hK => ?_
    | refine AW_block ?_
    | (refine does_call rfl rfl ?_; simp only [push_cast, seval, *]; refine ACall.monoP (hck _) ?_; (try simp only [push_cast, seval, *]))
    | ((first
      | refine AW_region_draw (id := 15) E0 (fun f => [].contains f) dLSZ00 dASZ00 mixed (by kernel_rfl) ?_
      | refine AW_region E0 ?_ | refine AW_ret ?_ | refine AW_exit ?_ | refine AW_skip ?_ | unfold retQ); try simp only [push_cast, seval, *])
    | (apply AW_cond; (case hc => (simp only [push_cast, seval]; rfl)); all_goals (intro hc; first | (exfalso; simp only [push_cast, seval, *] at hc; done) | (exact absurd hc (by decide)) | ((try first | rw [Bool.not_true] at hc | rw [Bool.not_false] at hc); first | (with_reducible replace hc := tTT hc); clear hc | (with_reducible replace hc := tFF hc); clear hc | (have hp := hc; try simp only [decide_eq_true_eq, decide_eq_false_iff_not, bA, bB, bC, bD, bE, bF, bG, bH] at hp))))
    | (refine Kn.go hK ?_; clear hK K)
    | refine Kn.go (by assumption) ?_
    | (intro n hn; (try simp only [upd_none2, join_none_iff, ite_none, ne_eq] at hn); (try simp only [push_cast, seval, *]))
    | (intro hc)
    | fail)
    exact ⟨_, _, Weak.trans (Weak.less (by (repeat' (first | exact Heap.le_refl _ | refine hle_upd2 ?_ _ _ | (refine Heap.le_new ?_ ?_; rotate_left 1; focus (first | assumption | (simp only [upd_none2, upd_get, ne_eq, push_cast, seval, *]; done) | (simp [upd_get, *]; done))))))) (weak_zw _), rfl, rfl⟩
  rw [if_neg h24]
  have h24I : ¬ (l.length : Int) = 24 := by omega
  have hE := tE22
  have hS := tS26
  have hB := tB26
  have hZ := tZ26
  simp only [List.map_append, List.map_cons, List.map_nil, actS, Act.av, Nm.av, zRec, show ¬ (3 : Int) = 2 by decide, if_false]
  clear h24
  refine ACall_of' Try.func49 rfl (Ent_of Try.func49 (by kernel_rfl) rfl) (by simp [Try.ntmps49]) ?_; simp only [Try.ntmps49, Try.results49]
  repeat' (first
    | refine AW_seq_kn fun K hK => ?_
    | refine AW_block ?_
    | (refine does_call rfl rfl ?_; simp only [push_cast, seval, *]; refine ACall.monoP (hck _) ?_; (try simp only [push_cast, seval, *]))
    | ((first
      | refine AW_region_draw (id := 15) E0 (fun f => [].contains f) dLSZ00 dASZ00 mixed (by kernel_rfl) ?_
      | refine AW_region E0 ?_ | refine AW_ret ?_ | refine AW_exit ?_ | refine AW_skip ?_ | unfold retQ); try simp only [push_cast, seval, *])
    | (apply AW_cond; (case hc => (simp only [push_cast, seval]; rfl)); all_goals (intro hc; first | (exfalso; simp only [push_cast, seval, *] at hc; done) | (exact absurd hc (by decide)) | ((try first | rw [Bool.not_true] at hc | rw [Bool.not_false] at hc); first | (with_reducible replace hc := tTT hc); clear hc | (with_reducible replace hc := tFF hc); clear hc | (have hp := hc; try simp only [decide_eq_true_eq, decide_eq_false_iff_not, bA, bB, bC, bD, bE, bF, bG, bH] at hp))))
    | (refine Kn.go hK ?_; clear hK K)
    | refine Kn.go (by assumption) ?_
    | (intro n hn; (try simp only [upd_none2, join_none_iff, ite_none, ne_eq] at hn); (try simp only [push_cast, seval, *]))
    | (intro hc)
    | fail)
  rename_i n1 h1 n2 h2
  generalize n = n5 at *
  obtain ⟨G, hG⟩ : ∃ G : Heap, G = upd (upd (upd H n1 (.r 34 5 1 [[.c (.int .i64 a), .c (.int .i64 b), .c (.int .i64 c), .c (.bool true), .l 3 (l.map Nm.av)]])) n2 (.r 34 5 1 [[.c (.int .i64 0), .c (.int .i64 0), .c (.int .i64 0), .c (.bool false), .c (.slice none 0 0)]])) n5 (.r 26 3 1 [[.c (.int .i64 a), .c (.int .i64 b), .c (.int .i64 c)]]) := ⟨_, rfl⟩
  have g1 : G n1 = some (.r 34 5 1 [[.c (.int .i64 a), .c (.int .i64 b), .c (.int .i64 c), .c (.bool true), .l 3 (l.map Nm.av)]]) := by rw [hG]; simp only [push_cast, seval, upd_get, *]
  have g2 : G n2 = some (.r 34 5 1 [[.c (.int .i64 0), .c (.int .i64 0), .c (.int .i64 0), .c (.bool false), .c (.slice none 0 0)]]) := by rw [hG]; simp only [push_cast, seval, upd_get, *]
  have g5 : G n5 = some (.r 26 3 1 [[.c (.int .i64 a), .c (.int .i64 b), .c (.int .i64 c)]]) := by rw [hG]; exact upd_same _ _ _
  have e2 : H n2 = none := h2.2
  have o12 : ¬ n1 = n2 := h2.1.2
  have o21 : ¬ n2 = n1 := h2.1.1
  have o51 : ¬ n5 = n1 := hn.2.1.1
  have o15 : ¬ n1 = n5 := hn.2.1.2
  have o52 : ¬ n5 = n2 := hn.1.1
  have o25 : ¬ n2 = n5 := hn.1.2
  have hle : ∀ x z : Blk, Heap.le H (upd (upd G n1 x) n2 z) := fun x z => by
    intro q u hq
    have c1 : q ≠ n1 := by rintro rfl; rw [h1] at hq; cases hq
    have c2 : q ≠ n2 := by rintro rfl; rw [h2.2] at hq; cases hq
    have c3 : q ≠ n5 := by rintro rfl; rw [hn.2.2] at hq; cases hq
    simp only [hG, upd_get, if_neg c1, if_neg c2, if_neg c3]; exact hq
  rw [← hG]
  clear hG h1 h2 hn hck
  replace hle := Lib.hid hle
  refine AW_loopX (σ := AV × Heap) l.length (fun k s => OwnL s.2 s.1 26 3 ((l.take k).map Nm.av) G) (fun k s => [(1, .p n1 5 0 0), (2, .p n2 5 0 0), (5, .p n5 3 0 0), (6, s.1), (7, ci k)]) (fun _ s => s.2) (.c (.slice none 0 0), G) (OwnL.nil _ _ _) ?_ ?_ ?_ ?_
  · (first | trivial | (simp only [push_cast, seval, *]; done))
  · exact Heap.le_refl _
  · rintro k ⟨z, Hs⟩ hk ho
    simp only at ho
    have hx := List.getElem?_eq_getElem (l := l) hk; generalize l[k] = x at hx; have hxm := List.mem_of_getElem? hx; have hkl : (k : Int) < l.length := (by omega); have hkw : IntKind.i64.wrap ((k : Int) + 1) = (k : Int) + 1 := wrap_i64 (by omega) (by omega)
    have hsn : (l.take (k + 1)).map Nm.av = (l.take k).map Nm.av ++ [Nm.av x] := by rw [take_snoc hx]; simp
    have hlt : (l.take k).length ≤ 24 := by rw [List.length_take]; omega
    have k1 := ho.get g1
    have k2 := ho.get g2
    have k5 := ho.get g5
    have r1 := ne_old k1
    have zcs := ho.cs
    have zone := ho.one
    obtain ⟨x1, x2, x3⟩ := x
    simp only [Nm.av] at hsn
    replace ho := Lib.hid ho
    replace hsn := Lib.hid hsn
    repeat' (first
    | refine AW_seq_kn fun K hK => ?_
    | refine AW_block ?_
    | ((first
      | refine AW_region_draw (id := 15) E0 (fun f => [].contains f) dLSZ00 dASZ00 mixed (by kernel_rfl) ?_
      | refine AW_region E0 ?_ | refine AW_ret ?_ | refine AW_exit ?_ | refine AW_skip ?_ | unfold retQ); try simp only [push_cast, seval, *])
    | (apply AW_cond; (case hc => (simp only [push_cast, seval]; rfl)); all_goals (intro hc; first | (exfalso; simp only [push_cast, seval, *] at hc; done) | (exact absurd hc (by decide)) | ((try first | rw [Bool.not_true] at hc | rw [Bool.not_false] at hc); first | (with_reducible replace hc := tTT hc); clear hc | (with_reducible replace hc := tFF hc); clear hc | (have hp := hc; try simp only [decide_eq_true_eq, decide_eq_false_iff_not, bA, bB, bC, bD, bE, bF, bG, bH] at hp))))
    | (refine Kn.go hK ?_; clear hK K)
    | refine Kn.go (by assumption) ?_
    | (intro n hn; (try simp only [upd_none2, join_none_iff, ite_none, ne_eq] at hn); (try simp only [push_cast, seval, *]))
    | (intro hc)
    | fail)
    refine does_app1 rfl rfl rfl rfl (unhid ho) (by simp only [upd_none2, push_cast, seval, *]) hE hS hB hZ rfl (by decide) (by simp only [List.length_map, maxLen]; omega) (by simp only [List.length_map]; omega) ?_
    intro z2 H2 hz2
    rw [← unhid hsn] at hz2
    have zcs2 := hz2.cs
    have zone2 := hz2.one
    have q1 := hz2.get g1
    replace hz2 := Lib.hid hz2
    clear k1 k2 k5 r1 zcs zone
    (try simp only [push_cast, seval, *])
    repeat' (first
    | refine AW_seq_kn fun K hK => ?_
    | refine AW_block ?_
    | ((first
      | refine AW_region_draw (id := 15) E0 (fun f => [].contains f) dLSZ00 dASZ00 mixed (by kernel_rfl) ?_
      | refine AW_region E0 ?_ | refine AW_ret ?_ | refine AW_exit ?_ | refine AW_skip ?_ | unfold retQ); try simp only [push_cast, seval, *])
    | (apply AW_cond; (case hc => (simp only [push_cast, seval]; rfl)); all_goals (intro hc; first | (exfalso; simp only [push_cast, seval, *] at hc; done) | (exact absurd hc (by decide)) | ((try first | rw [Bool.not_true] at hc | rw [Bool.not_false] at hc); first | (with_reducible replace hc := tTT hc); clear hc | (with_reducible replace hc := tFF hc); clear hc | (have hp := hc; try simp only [decide_eq_true_eq, decide_eq_false_iff_not, bA, bB, bC, bD, bE, bF, bG, bH] at hp))))
    | (refine Kn.go hK ?_; clear hK K)
    | refine Kn.go (by assumption) ?_
    | (intro n hn; (try simp only [upd_none2, join_none_iff, ite_none, ne_eq] at hn); (try simp only [push_cast, seval, *]))
    | (intro hc)
    | fail)
    exact ⟨(z2, H2), unhid hz2, by (first | trivial | (simp only [push_cast, seval, *]; done)), by first | trivial | exact Heap.le_refl _⟩
  · rintro ⟨z, Hs⟩ ho
    simp only [List.take_length] at ho
    have k1 := ho.get g1
    have k2 := ho.get g2
    have k5 := ho.get g5
    have zcs := ho.cs
    have zone := ho.one
    replace ho := Lib.hid ho
    repeat' (first
    | refine AW_seq_kn fun K hK => ?_
    | refine AW_block ?_
    | ((first
      | refine AW_region_draw (id := 15) E0 (fun f => [].contains f) dLSZ00 dASZ00 mixed (by kernel_rfl) ?_
      | refine AW_region E0 ?_ | refine AW_ret ?_ | refine AW_exit ?_ | refine AW_skip ?_ | unfold retQ); try simp only [push_cast, seval, *])
    | (apply AW_cond; (case hc => (simp only [push_cast, seval]; rfl)); all_goals (intro hc; first | (exfalso; simp only [push_cast, seval, *] at hc; done) | (exact absurd hc (by decide)) | ((try first | rw [Bool.not_true] at hc | rw [Bool.not_false] at hc); first | (with_reducible replace hc := tTT hc); clear hc | (with_reducible replace hc := tFF hc); clear hc | (have hp := hc; try simp only [decide_eq_true_eq, decide_eq_false_iff_not, bA, bB, bC, bD, bE, bF, bG, bH] at hp))))
    | (refine Kn.go hK ?_; clear hK K)
    | refine Kn.go (by assumption) ?_
    | (intro n hn; (try simp only [upd_none2, join_none_iff, ite_none, ne_eq] at hn); (try simp only [push_cast, seval, *]))
    | (intro hc)
    | fail)
    refine does_app1F rfl rfl rfl rfl (unhid ho) (by simp only [upd_none2, push_cast, seval, *]) hE hS hB hZ rfl (by decide) (by simp only [List.length_map, maxLen]; omega) (by simp only [List.length_map]; omega) ?_
    clear ho k1 k2 k5
    (try simp only [push_cast, seval, *])
    repeat' (first
    | refine AW_seq_kn fun K hK => ?_
    | refine AW_block ?_
    | ((first
      | refine AW_region_draw (id := 15) E0 (fun f => [].contains f) dLSZ00 dASZ00 mixed (by kernel_rfl) ?_
      | refine AW_region E0 ?_ | refine AW_ret ?_ | refine AW_exit ?_ | refine AW_skip ?_ | unfold retQ); try simp only [push_cast, seval, *])
    | (apply AW_cond; (case hc => (simp only [push_cast, seval]; rfl)); all_goals (intro hc; first | (exfalso; simp only [push_cast, seval, *] at hc; done) | (exact absurd hc (by decide)) | ((try first | rw [Bool.not_true] at hc | rw [Bool.not_false] at hc); first | (with_reducible replace hc := tTT hc); clear hc | (with_reducible replace hc := tFF hc); clear hc | (have hp := hc; try simp only [decide_eq_true_eq, decide_eq_false_iff_not, bA, bB, bC, bD, bE, bF, bG, bH] at hp))))
    | (refine Kn.go hK ?_; clear hK K)
    | refine Kn.go (by assumption) ?_
    | (intro n hn; (try simp only [upd_none2, join_none_iff, ite_none, ne_eq] at hn); (try simp only [push_cast, seval, *]))
    | (intro hc)
    | fail)
    exact ⟨_, _, Weak.trans ((OwnL.at (ty := 61) (sz := 7) (cap := 1) (len := 1) (rows := [[.c (.int .i64 3), .c (.int .i64 a), .c (.int .i64 b), .c (.int .i64 c), .c (.int .i64 0), .c (.int .i64 0), .c (.int .i64 0)]]) rfl (by simp only [upd_none2, push_cast, seval, *])).weak (fun F F' hF hi _ => Imp.t (Imps.cons (Imp.refl hF _) id (Imps.cons hi (fun _ => rfl) (Imps.refl hF _))))) (Weak.less (unhid hle _ _)), rfl, rfl⟩
end Go.Proofs.Ytdeckjoeggmagaa
