/- Walk of the document: a copy of a log. -/
import Derived.Test.YtdeckjoeggmagaaDE
import Derived.Test.YtdeckjoeggmagaaP
namespace Go.Proofs.Ytdeckjoeggmagaa
open Go.RowKit
open Nat renaming reduceEqDiff → nA, reduceLT → nB, reduceLeDiff → nC, reduceAdd → nD, reduceMul → nE, reduceSub → nF, reduceBEq → nG
open Int renaming reduceToNat → iA, reduceLT → iB, reduceLE → iC, reduceEq → iD
open Bool renaming and_eq_true → bA, or_eq_true → bB, or_eq_false_iff → bC, and_eq_false_iff → bD, not_eq_true' → bE, not_eq_false' → bF, not_true → bG, not_false → bH
set_option linter.all false
set_option maxHeartbeats 4000000
attribute [local irreducible] AW Does ACall tE tS tB tZ
def dLDF0 : List En := [(1, false, []), (2, false, []), (5, false, []), (6, true, []), (0, false, []), (3, false, [6, 4, 9]), (4, false, []), (7, false, [9]), (8, false, []), (9, false, []), (10, false, [])]
def dADF0 : List (List Nat) := [[], [], [1], [0, 1, 2], [], [], [5], [0, 1, 2, 3, 4, 5, 6], [0, 1, 2, 3, 4, 5, 6, 7], [], [0, 1, 2, 3, 4, 5, 6, 7, 8, 9]]
attribute [push_cast] dLDF0
set_option maxRecDepth 5000

theorem Copy_o (l : Lg) (hf : l.fits) (H : Heap) :
    ACall Try.prog 29 [.g (Lg.av l)] H fun r H' => ∃ y1 y2 y3, r = gl y1 y2 y3 ∧ OwnG y1 y2 y3 l H' H := by
  have hl1 := hf.1.1
  have hl2 := hf.1.2.1
  have hl3 := hf.1.2.2
  have hl4 := hf.2
  obtain ⟨a, b, c⟩ := l
  simp only at hl1 hl2 hl3 hl4
  simp only [Lg.av]
  clear hf
  have hE22 := tE22
  have hS26 := tS26
  have hB26 := tB26
  have hZ26 := tZ26
  have hE45 := tE45
  have hS36 := tS36
  have hB36 := tB36
  have hZ36 := tZ36
  have hE44 := tE44
  have hS86 := tS86
  have hB86 := tB86
  have hZ86 := tZ86
  replace hl4 := Lib.hid hl4
  refine ACall_of' Try.func29 rfl (Ent_of Try.func29 (by kernel_rfl) rfl) (by simp [Try.ntmps29]) ?_; simp only [Try.ntmps29, Try.results29]
  repeat' (first
    | refine AW_seq_kn fun K hK => ?_
    | refine AW_block ?_
    | ((first
      | refine AW_region_draw (id := 1) E0 (fun f => [].contains f) dLDF0 dADF0 mixed (by kernel_rfl) ?_
      | refine AW_region E0 ?_ | refine AW_ret ?_ | refine AW_exit ?_ | refine AW_skip ?_ | unfold retQ); try simp only [push_cast, seval, *])
    | (apply AW_cond; (case hc => (simp only [push_cast, seval]; rfl)); all_goals (intro hc; first | (exfalso; simp only [push_cast, seval, *] at hc; done) | (exact absurd hc (by decide)) | ((try first | rw [Bool.not_true] at hc | rw [Bool.not_false] at hc); first | (with_reducible replace hc := tTT hc); clear hc | (with_reducible replace hc := tFF hc); clear hc | (have hp := hc; try simp only [decide_eq_true_eq, decide_eq_false_iff_not, bA, bB, bC, bD, bE, bF, bG, bH] at hp))))
    | (refine Kn.go hK ?_; clear hK K)
    | refine Kn.go (by assumption) ?_
    | (intro n hn; (try simp only [upd_none2, join_none_iff, ite_none, ne_eq] at hn); (try simp only [push_cast, seval, *]))
    | (intro hc)
    | fail)
  rename_i n1 h1 n2 h2
  obtain ⟨G, hG⟩ : ∃ G : Heap, G = upd (upd H n1 (.r 47 3 1 [[.l 5 (a.map Tx.av), .l 3 (b.map Nm.av), .l 3 (c.map Rec.av)]])) n2 (.r 47 3 1 [zL]) := ⟨_, rfl⟩
  have g1 : G n1 = some (.r 47 3 1 [[.l 5 (a.map Tx.av), .l 3 (b.map Nm.av), .l 3 (c.map Rec.av)]]) := by rw [hG, upd_ne h2.1.2, upd_same]
  have g2 : G n2 = some (.r 47 3 1 [zL]) := by rw [hG, upd_same]
  have g2' := g2
  have gn : G n = none := by rw [hG, upd_ne hn.1.1, upd_ne hn.2.1.1]; exact hn.2.2
  have e2 : H n2 = none := h2.2
  have hle : Heap.le H G := by rw [hG]; exact le_new2 h1 h2.2 h2.1.1
  rw [← hG]
  clear hG h1 h2 hn
  refine does_appL (news := b.map Nm.av) rfl rfl rfl (OwnL.fresh gn) hE22 hS26 hB26 hZ26 rfl (by decide) ?_ ?_ ?_
  · simp only [List.length_map, List.length_nil, maxLen]; omega
  · simp only [List.length_map, List.length_nil]; omega
  intro z2 A1 hz2
  rw [List.nil_append] at hz2
  have k1 := hz2.get g1
  have k2 := hz2.get g2
  have c2 := hz2.cs
  have w2 := hz2.one
  have o1 := ne_old k1
  have o2 := ne_old k2
  replace hz2 := Lib.hid hz2
  replace hle := Lib.hid hle
  clear gn
  (try simp only [push_cast, seval, *])
  repeat' (first
    | refine AW_seq_kn fun K hK => ?_
    | refine AW_block ?_
    | ((first
      | refine AW_region_draw (id := 1) E0 (fun f => [].contains f) dLDF0 dADF0 mixed (by kernel_rfl) ?_
      | refine AW_region E0 ?_ | refine AW_ret ?_ | refine AW_exit ?_ | refine AW_skip ?_ | unfold retQ); try simp only [push_cast, seval, *])
    | (apply AW_cond; (case hc => (simp only [push_cast, seval]; rfl)); all_goals (intro hc; first | (exfalso; simp only [push_cast, seval, *] at hc; done) | (exact absurd hc (by decide)) | ((try first | rw [Bool.not_true] at hc | rw [Bool.not_false] at hc); first | (with_reducible replace hc := tTT hc); clear hc | (with_reducible replace hc := tFF hc); clear hc | (have hp := hc; try simp only [decide_eq_true_eq, decide_eq_false_iff_not, bA, bB, bC, bD, bE, bF, bG, bH] at hp))))
    | (refine Kn.go hK ?_; clear hK K)
    | refine Kn.go (by assumption) ?_
    | (intro n hn; (try simp only [upd_none2, join_none_iff, ite_none, ne_eq] at hn); (try simp only [push_cast, seval, *]))
    | (intro hc)
    | fail)
  refine does_appL (news := c.map Rec.av) rfl rfl rfl (OwnL.fresh hn) hE45 hS36 hB36 hZ36 rfl (by decide) ?_ ?_ ?_
  · simp only [List.length_map, List.length_nil, maxLen]; omega
  · simp only [List.length_map, List.length_nil]; omega
  intro z3 A2 hz3
  rw [List.nil_append] at hz3
  have j1 := hz3.get k1
  have j2 := hz3.get k2
  have c3 := hz3.cs
  have w3 := hz3.one
  replace hz3 := Lib.hid hz3
  clear k1 k2 o1 o2 hn
  have o1 := ne_old j1
  have o2 := ne_old j2
  (try simp only [push_cast, seval, *])
  repeat' (first
    | refine AW_seq_kn fun K hK => ?_
    | refine AW_block ?_
    | ((first
      | refine AW_region_draw (id := 1) E0 (fun f => [].contains f) dLDF0 dADF0 mixed (by kernel_rfl) ?_
      | refine AW_region E0 ?_ | refine AW_ret ?_ | refine AW_exit ?_ | refine AW_skip ?_ | unfold retQ); try simp only [push_cast, seval, *])
    | (apply AW_cond; (case hc => (simp only [push_cast, seval]; rfl)); all_goals (intro hc; first | (exfalso; simp only [push_cast, seval, *] at hc; done) | (exact absurd hc (by decide)) | ((try first | rw [Bool.not_true] at hc | rw [Bool.not_false] at hc); first | (with_reducible replace hc := tTT hc); clear hc | (with_reducible replace hc := tFF hc); clear hc | (have hp := hc; try simp only [decide_eq_true_eq, decide_eq_false_iff_not, bA, bB, bC, bD, bE, bF, bG, bH] at hp))))
    | (refine Kn.go hK ?_; clear hK K)
    | refine Kn.go (by assumption) ?_
    | (intro n hn; (try simp only [upd_none2, join_none_iff, ite_none, ne_eq] at hn); (try simp only [push_cast, seval, *]))
    | (intro hc)
    | fail)
  generalize n = n3 at *
  have gn3 : A2 n3 = none := hn
  have n32 : ¬ n3 = n2 := of_eq_false (o2 n3 hn).2
  have n23 : ¬ n2 = n3 := of_eq_false (o2 n3 hn).1
  clear o1 o2 hn j1
  refine AW_loopX (σ := AV × Heap) a.length (fun k s => OwnX s.1 (a.take k) s.2 (upd A2 n3 (.r 47 3 1 [[s.1, z2, z3]]))) (fun k s => [(2, .p n2 3 0 0), (3, .p n3 3 0 0), (16, .l 5 (a.map Tx.av)), (17, ci a.length), (18, ci k)]) (fun _ s => s.2) (.c (.slice none 0 0), upd A2 n3 (.r 47 3 1 [[.c (.slice none 0 0), z2, z3]])) OwnSl.nil ?_ ?_ ?_ ?_
  · (first | trivial | (simp only [push_cast, seval, *]; done))
  · exact Heap.le_refl _
  · rintro k ⟨y1, S⟩ hk ho
    simp only at ho ⊢
    have hx := List.getElem?_eq_getElem (l := a) hk; generalize a[k] = x at hx; have hxm := List.mem_of_getElem? hx; have hkl : (k : Int) < a.length := (by omega); have hkw : IntKind.i64.wrap ((k : Int) + 1) = (k : Int) + 1 := wrap_i64 (by omega) (by omega)
    have hb := unhid hl4 x hxm
    have hsn := take_snoc hx
    have g3 := (OwnX_loc _ _).get ho (upd_same _ n3 _)
    have o3 := ne_old g3
    have c1 := OwnSl.cs ho
    have w1 := OwnSl.one ho
    obtain ⟨⟨x1, x2, x3⟩, xst, xrs⟩ := x
    have hxv : Tx.av ⟨⟨x1, x2, x3⟩, xst, xrs⟩ = [.c (.int .i64 x1), .c (.int .i64 x2), .c (.int .i64 x3), .c (.int .i64 xst), .l 3 (xrs.map Rec.av)] := rfl
    simp only at hb
    clear hxm
    replace ho := Lib.hid ho
    repeat' (first
    | refine AW_seq_kn fun K hK => ?_
    | refine AW_block ?_
    | ((first
      | refine AW_region_draw (id := 1) E0 (fun f => [].contains f) dLDF0 dADF0 mixed (by kernel_rfl) ?_
      | refine AW_region E0 ?_ | refine AW_ret ?_ | refine AW_exit ?_ | refine AW_skip ?_ | unfold retQ); try simp only [push_cast, seval, *])
    | (apply AW_cond; (case hc => (simp only [push_cast, seval]; rfl)); all_goals (intro hc; first | (exfalso; simp only [push_cast, seval, *] at hc; done) | (exact absurd hc (by decide)) | ((try first | rw [Bool.not_true] at hc | rw [Bool.not_false] at hc); first | (with_reducible replace hc := tTT hc); clear hc | (with_reducible replace hc := tFF hc); clear hc | (have hp := hc; try simp only [decide_eq_true_eq, decide_eq_false_iff_not, bA, bB, bC, bD, bE, bF, bG, bH] at hp))))
    | (refine Kn.go hK ?_; clear hK K)
    | refine Kn.go (by assumption) ?_
    | (intro n hn; (try simp only [upd_none2, join_none_iff, ite_none, ne_eq] at hn); (try simp only [push_cast, seval, *]))
    | (intro hc)
    | fail)
    rename_i n5 h5
    obtain ⟨S1, hS1⟩ : ∃ S1 : Heap, S1 = upd S n5 (.r 86 5 1 [[.c (.int .i64 x1), .c (.int .i64 x2), .c (.int .i64 x3), .c (.int .i64 xst), .l 3 (xrs.map Rec.av)]]) := ⟨_, rfl⟩
    have q5 : S1 n5 = some (.r 86 5 1 [[.c (.int .i64 x1), .c (.int .i64 x2), .c (.int .i64 x3), .c (.int .i64 xst), .l 3 (xrs.map Rec.av)]]) := by rw [hS1, upd_same]
    have qn : S1 n = none := by rw [hS1, upd_ne hn.1.1]; exact hn.2
    have n53 : ¬ n5 = n3 := of_eq_false (o3 n5 h5).2
    have n35 : ¬ n3 = n5 := of_eq_false (o3 n5 h5).1
    have q3 : S1 n3 = some (.r 47 3 1 [[y1, z2, z3]]) := by rw [hS1, upd_ne n35]; exact g3
    have hb5 : upd A2 n3 (.r 47 3 1 [[y1, z2, z3]]) n5 = none := (OwnX_loc _ _).old (unhid ho) h5
    have gA5 : A2 n5 = none := by rw [upd_ne n53] at hb5; exact hb5
    have hox := (OwnX_loc _ _).new (unhid ho) h5 (.r 86 5 1 [[.c (.int .i64 x1), .c (.int .i64 x2), .c (.int .i64 x3), .c (.int .i64 xst), .l 3 (xrs.map Rec.av)]])
    rw [← hS1] at hox ⊢
    clear hS1 ho h5 hn o3 hb5 g3
    refine does_appL (news := xrs.map Rec.av) rfl rfl rfl (OwnL.fresh qn) hE45 hS36 hB36 hZ36 rfl (by decide) ?_ ?_ ?_
    · simp only [List.length_map, List.length_nil, maxLen]; omega
    · simp only [List.length_map, List.length_nil]; omega
    intro z S2 hz
    rw [List.nil_append] at hz
    have p5 := hz.get q5
    have p3 := hz.get q3
    have cz := hz.cs
    have wz := hz.one
    have o3 := ne_old p3
    have o5 := ne_old p5
    replace hz := Lib.hid hz
    replace hox := Lib.hid hox
    clear qn
    (try simp only [push_cast, seval, *])
    repeat' (first
    | refine AW_seq_kn fun K hK => ?_
    | refine AW_block ?_
    | ((first
      | refine AW_region_draw (id := 1) E0 (fun f => [].contains f) dLDF0 dADF0 mixed (by kernel_rfl) ?_
      | refine AW_region E0 ?_ | refine AW_ret ?_ | refine AW_exit ?_ | refine AW_skip ?_ | unfold retQ); try simp only [push_cast, seval, *])
    | (apply AW_cond; (case hc => (simp only [push_cast, seval]; rfl)); all_goals (intro hc; first | (exfalso; simp only [push_cast, seval, *] at hc; done) | (exact absurd hc (by decide)) | ((try first | rw [Bool.not_true] at hc | rw [Bool.not_false] at hc); first | (with_reducible replace hc := tTT hc); clear hc | (with_reducible replace hc := tFF hc); clear hc | (have hp := hc; try simp only [decide_eq_true_eq, decide_eq_false_iff_not, bA, bB, bC, bD, bE, bF, bG, bH] at hp))))
    | (refine Kn.go hK ?_; clear hK K)
    | refine Kn.go (by assumption) ?_
    | (intro n hn; (try simp only [upd_none2, join_none_iff, ite_none, ne_eq] at hn); (try simp only [push_cast, seval, *]))
    | (intro hc)
    | fail)
    obtain ⟨c5, hc5⟩ : ∃ c5 : Blk, c5 = .r 86 5 1 [[.c (.int .i64 x1), .c (.int .i64 x2), .c (.int .i64 x3), .c (.int .i64 xst), z]] := ⟨_, rfl⟩
    have hz4 := (Loc.own _ _ _ _).turn (unhid hz) q5 c5
    have hox4 := (OwnX_loc _ _).turn (unhid hox) (upd_same _ n5 _) c5
    rw [upd_upd] at hox4
    obtain ⟨L, hL, H1, l1, l2⟩ := hox4
    obtain ⟨H3, f1, f2⟩ := (Loc.own _ _ _ _).swap (Loc.own _ _ _ _) hz4 l1
    rw [hc5] at f1
    have hLl : L.length ≤ 1000000 := by have := congrArg List.length hL; simp only [List.length_map, List.length_take] at this; omega
    refine does_app1 rfl rfl rfl rfl f1 (by simp only [upd_none2, push_cast, seval, *]) hE44 hS86 hB86 hZ86 rfl (by decide) (by simp only [List.length_map, maxLen]; omega) (by simp only [List.length_map]; omega) ?_
    intro y1' S6 hy
    have e6 : L.map encX ++ [[.c (.int .i64 x1), .c (.int .i64 x2), .c (.int .i64 x3), .c (.int .i64 xst), z]] = (L ++ [(z, (⟨⟨x1, x2, x3⟩, xst, xrs⟩ : Tx))]).map encX := by rw [List.map_append]; rfl
    rw [e6] at hy
    have hnew : OwnX y1' (a.take (k + 1)) S6 (upd (upd A2 n3 (.r 47 3 1 [[y1, z2, z3]])) n5 c5) :=
      ⟨L ++ [(z, ⟨⟨x1, x2, x3⟩, xst, xrs⟩)], by rw [List.map_append, hL, hsn]; rfl, H3, hy, Chain.snoc RX_loc (show RX z ⟨⟨x1, x2, x3⟩, xst, xrs⟩ H3 H1 from f2) l2⟩
    have r3 := (OwnX_loc _ _).get hnew (show _ = some (.r 47 3 1 [[y1, z2, z3]]) by rw [upd_ne n35, upd_same])
    have r5 := (OwnX_loc _ _).get hnew (upd_same _ n5 c5)
    have c1' := OwnSl.cs hnew
    have w1' := OwnSl.one hnew
    have hfin := (OwnX_loc _ _).turn hnew (show _ = some (.r 47 3 1 [[y1, z2, z3]]) by rw [upd_ne n35, upd_same]) (.r 47 3 1 [[y1', z2, z3]])
    obtain ⟨S7, u1, u2⟩ := (OwnX_loc _ _).cut hfin (le_turnB (G := A2) (n := n3) (m := n5) (a := .r 47 3 1 [[y1, z2, z3]]) (b := c5) (c := .r 47 3 1 [[y1', z2, z3]]) n53 gA5)
    replace u1 := Lib.hid u1
    replace u2 := Lib.hid u2
    clear hfin hnew hy l1 l2 f1 f2 hz4 hz hox p5 p3 q5 q3 o3 o5 e6 hL hLl c1 w1
    (try simp only [push_cast, seval, *])
    repeat' (first
    | refine AW_seq_kn fun K hK => ?_
    | refine AW_block ?_
    | ((first
      | refine AW_region_draw (id := 1) E0 (fun f => [].contains f) dLDF0 dADF0 mixed (by kernel_rfl) ?_
      | refine AW_region E0 ?_ | refine AW_ret ?_ | refine AW_exit ?_ | refine AW_skip ?_ | unfold retQ); try simp only [push_cast, seval, *])
    | (apply AW_cond; (case hc => (simp only [push_cast, seval]; rfl)); all_goals (intro hc; first | (exfalso; simp only [push_cast, seval, *] at hc; done) | (exact absurd hc (by decide)) | ((try first | rw [Bool.not_true] at hc | rw [Bool.not_false] at hc); first | (with_reducible replace hc := tTT hc); clear hc | (with_reducible replace hc := tFF hc); clear hc | (have hp := hc; try simp only [decide_eq_true_eq, decide_eq_false_iff_not, bA, bB, bC, bD, bE, bF, bG, bH] at hp))))
    | (refine Kn.go hK ?_; clear hK K)
    | refine Kn.go (by assumption) ?_
    | (intro n hn; (try simp only [upd_none2, join_none_iff, ite_none, ne_eq] at hn); (try simp only [push_cast, seval, *]))
    | (intro hc)
    | fail)
    exact ⟨(y1', S7), by first | exact unhid u2 | (rw [← hsn]; exact unhid u2), by (first | trivial | (simp only [push_cast, seval, *]; done)), unhid u1⟩
  · rintro ⟨y1, S⟩ ho
    simp only [List.take_length] at ho
    have g3 := (OwnX_loc _ _).get ho (upd_same _ n3 _)
    have g2 := (OwnX_loc _ _).get ho (show _ = some (.r 47 3 1 [zL]) by rw [upd_ne n23]; exact j2)
    have c1 := OwnSl.cs ho
    have w1 := OwnSl.one ho
    obtain ⟨X, x1, x2⟩ := (Loc.own _ _ _ _).swap (Loc.own _ _ _ _) (unhid hz3) (unhid hz2)
    obtain ⟨S1, u1, u2⟩ := (OwnX_loc _ _).cut ho (le_upd_new gn3)
    have hall : OwnG y1 z2 z3 ⟨a, b, c⟩ S1 G := ⟨A2, u2, X, x1, x2⟩
    obtain ⟨S2, v1, v2, v3⟩ := (OwnG_loc _ _ _ _).cutx hall (unhid hle)
    have v4 := v3 n2 (by rw [g2']; simp) e2
    have v5 := Heap.le_trans v1 u1
    replace v2 := Lib.hid v2
    replace v4 := Lib.hid v4
    replace v5 := Lib.hid v5
    clear ho hall u1 u2 v1 v3 x1 x2
    repeat' (first
    | refine AW_seq_kn fun K hK => ?_
    | refine AW_block ?_
    | ((first
      | refine AW_region_draw (id := 1) E0 (fun f => [].contains f) dLDF0 dADF0 mixed (by kernel_rfl) ?_
      | refine AW_region E0 ?_ | refine AW_ret ?_ | refine AW_exit ?_ | refine AW_skip ?_ | unfold retQ); try simp only [push_cast, seval, *])
    | (apply AW_cond; (case hc => (simp only [push_cast, seval]; rfl)); all_goals (intro hc; first | (exfalso; simp only [push_cast, seval, *] at hc; done) | (exact absurd hc (by decide)) | ((try first | rw [Bool.not_true] at hc | rw [Bool.not_false] at hc); first | (with_reducible replace hc := tTT hc); clear hc | (with_reducible replace hc := tFF hc); clear hc | (have hp := hc; try simp only [decide_eq_true_eq, decide_eq_false_iff_not, bA, bB, bC, bD, bE, bF, bG, bH] at hp))))
    | (refine Kn.go hK ?_; clear hK K)
    | refine Kn.go (by assumption) ?_
    | (intro n hn; (try simp only [upd_none2, join_none_iff, ite_none, ne_eq] at hn); (try simp only [push_cast, seval, *]))
    | (intro hc)
    | fail)
    exact ⟨_, S2, Weak.less (by repeat' (first | exact unhid v5 | refine le_skip ?_ (unhid v4))), y1, z2, z3, rfl, unhid v2⟩
theorem Copy_f (l : Lg) (hf : l.fits) (H : Heap) :
    ACall Try.prog 29 [.g (Lg.av l)] H fun r H' => ∃ y1 y2 y3, r = gl y1 y2 y3 ∧ OwnF y1 y2 y3 l H' H :=
  ACall.weak ((Copy_o l hf H).mono fun r H' ⟨y1, y2, y3, e, ho⟩ => let ⟨H2, h1, h2⟩ := ho.half; ⟨r, H2, h2 r, y1, y2, y3, e, h1⟩)
theorem Copy_p (l : Lg) (hf : l.fits) : Pure Try.prog 29 [.g (Lg.av l)] (.g (Lg.av l)) := fun H =>
  ACall.weak ((Copy_o l hf H).mono fun r H' ⟨y1, y2, y3, e, ho⟩ => ⟨_, H, by rw [e]; exact (OwnG_wp ho).weak fun F F' hF hi => hi, rfl, rfl⟩)
end Go.Proofs.Ytdeckjoeggmagaa
