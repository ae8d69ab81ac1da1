/- Walks: Do, as the document says it. -/
import Derived.Test.YtmkncbddjnaklaaTRd
import Derived.Test.YtmkncbddjnaklaaI
import Derived.Test.YtmkncbddjnaklaaTH
import Derived.Test.YtmkncbddjnaklaaTK
namespace Go.Proofs.Ytmkncbddjnaklaa
open Go.RowKit
open Nat renaming reduceEqDiff → nA, reduceLT → nB, reduceLeDiff → nC, reduceAdd → nD, reduceMul → nE, reduceSub → nF, reduceBEq → nG
open Int renaming reduceToNat → iA, reduceLT → iB, reduceLE → iC, reduceEq → iD
open Bool renaming and_eq_true → bA, or_eq_true → bB, or_eq_false_iff → bC, and_eq_false_iff → bD, not_eq_true' → bE, not_eq_false' → bF, not_true → bG, not_false → bH
set_option linter.all false
set_option maxHeartbeats 4000000
attribute [local irreducible] AW Does ACall tE tS tB tZ
def dLTS0 : List En := [(0, true, []), (1, false, []), (2, false, []), (4, false, []), (5, true, []), (3, false, [0, 5, 11]), (6, false, [11]), (7, false, []), (8, false, []), (9, false, []), (10, false, []), (11, false, []), (12, false, []), (13, false, []), (14, false, [])]
def dATS0 : List (List Nat) := [[], [], [], [1, 2], [], [4], [0, 1, 2, 3, 4, 5], [0, 1, 2, 3, 4, 5, 6], [0, 1, 2, 3, 4, 5, 6, 7], [0, 1, 2, 3, 4, 5, 6, 7], [0, 1, 2, 3, 4, 5, 6, 7], [], [0, 1, 2, 3, 4, 5, 6, 7, 8, 11], [0, 1, 2, 3, 4, 5, 6, 7, 8, 9, 11, 12], [0, 1, 2, 3, 4, 5, 6, 7, 8, 9, 10, 11, 12, 13]]
attribute [push_cast] dLTS0

theorem DoT_eq (o : OpD) (T : List KC) (r : Rec) : DoT o T r = if tOk T = false then ([], [], 220) else if recOk r = false then ([], [], 150) else
    if (runS o (getS T r) [r.v]).2.2 ≠ 0 then ([], [], (runS o (getS T r) [r.v]).2.2) else (setS T r (runS o (getS T r) [r.v]).1, (runS o (getS T r) [r.v]).2.1.map (recV r), 0) := by
  unfold DoT
  simp only [runA]
  by_cases hk : tOk T = false
  · rw [if_pos hk, if_pos hk]
  by_cases hq : recOk r = false
  · simp [hk, hq]
  by_cases h : (runS o (getS T r) [r.v]).2.2 = 0 <;> simp [hk, hq, h]
theorem nil_do (F : Mem) (e : Int) : Imp F F (.t [.g [.c (.slice none 0 0)], .c (.slice none 0 0), .c (.int .i64 e)]) (.t [.g [.l 4 []], .l 3 [], .c (.int .i64 e)]) :=
  Imp.t (Imps.cons (Imp.g (Imps.cons (Imp.nil_l 4) (fun _ => rfl) Imps.nil)) id (Imps.cons (Imp.nil_l 3) (fun _ => rfl) (Imps.cons (Imp.refl (Mem.le.refl F) _) id Imps.nil)))
theorem rDo_p (o : OpD) (hlO : o.ins.length ≤ maxLen) (hA : o.A ≤ 9223372036854775807) (T : List KC) (hT : T.length ≤ 90000) (r : Rec) :
    Pure Try.prog 34 [.g (OpD.av o), .g [.l 4 (T.map KC.av)], .g (Rec.av r)] (.t [.g [.l 4 ((DoT o T r).1.map KC.av)], .l 3 ((DoT o T r).2.1.map Rec.av), .c (.int .i64 (DoT o T r).2.2)]) := by
  intro H
  have hT2 : T.length ≤ maxLen := by unfold maxLen; omega
  have hch := tright_p T hT2
  have hck := right5_p r.s r.k r.v
  have hge := rget_p T hT2 r
  have hdo := refDo_p o (getS T r) r.v hlO hA
  have hpu := fun c (hr : Rise T) => rput_p T (by omega) hr r c
  have hri : tOk T = true → Rise T := tOk_rise
  have hD := DoT_eq o T r
  have hdl := runS1_len o (getS T r) r.v
  generalize DoT o T r = D at *
  generalize getS T r = C at *
  generalize runS o C [r.v] = R at *
  obtain ⟨⟨n1, t1⟩, vals, e⟩ := R
  obtain ⟨D1, D2, D3⟩ := D
  obtain ⟨c1, c2⟩ := C
  have hrk : recOk ⟨r.s, r.k, r.v⟩ = recOk r := rfl
  rw [hrk] at hck
  simp only [OpD.av, CellD.av, Rec.av] at hch hck hge hdo hpu ⊢
  simp only at hD hdl
  have hpu1 := hpu ⟨n1, t1⟩
  simp only at hpu1
  generalize setS T r ⟨n1, t1⟩ = S at *
  obtain ⟨ot, ow, oi, oA, oB⟩ := o
  obtain ⟨rs, rk, rv⟩ := r
  simp only at hdo hpu1
  simp only
  clear hpu hrk
  replace hD := Lib.hid hD
  replace hri := Lib.hid hri
  replace hpu1 := Lib.hid hpu1
  replace hdo := Lib.hid hdo
  cases hok : tOk T <;> rw [hok] at hch
  · obtain ⟨rfl, rfl, rfl⟩ : D1 = [] ∧ D2 = [] ∧ D3 = 220 := by
      have h := unhid hD; rw [hok, if_pos rfl] at h; simpa using h
    simp only [Bool.false_eq_true, if_false, vBF] at hch
    clear hD hri hpu1 hdo hck hge hok hlO hA
    simp only [List.map_nil]
    refine ACall_of' Try.func34 rfl (Ent_of Try.func34 (by kernel_rfl) rfl) (by simp [Try.ntmps34]) ?_; simp only [Try.ntmps34, Try.results34]
    repeat' (first
    | refine AW_seq_kn fun K hK => ?_
    | refine AW_block ?_
    | (refine does_call rfl rfl ?_; simp only [push_cast, seval, *]; refine ACall.monoP (hch _) ?_; (try simp only [push_cast, seval, *]))
    | (refine does_call rfl rfl ?_; simp only [push_cast, seval, *]; refine ACall.monoP (refDo_p ⟨_, _, _, _, _⟩ ⟨_, _⟩ _ (by assumption) (by assumption) _) ?_; (try simp only [push_cast, seval, *]))
    | (refine does_call rfl rfl ?_; simp only [push_cast, seval, *]; refine ACall.monoP (rget_p _ (by assumption) ⟨_, _, _⟩ _) ?_; (try simp only [push_cast, seval, *]))
    | ((first
      | refine AW_region_draw (id := 5) E0 (fun f => [].contains f) dLTS0 dATS0 mixed (by kernel_rfl) ?_
      | refine AW_region E0 ?_ | refine AW_ret ?_ | refine AW_exit ?_ | refine AW_skip ?_ | unfold retQ); try simp only [push_cast, seval, *])
    | (apply AW_cond; (case hc => (simp only [push_cast, seval]; rfl)); all_goals (intro hc; first | (exfalso; simp only [push_cast, seval, *] at hc; done) | (exact absurd hc (by decide)) | ((try first | rw [Bool.not_true] at hc | rw [Bool.not_false] at hc); first | (with_reducible replace hc := tTT hc); clear hc | (with_reducible replace hc := tFF hc); clear hc | (have hp := hc; try simp only [decide_eq_true_eq, decide_eq_false_iff_not, bA, bB, bC, bD, bE, bF, bG, bH] at hp))))
    | (refine Kn.go hK ?_; clear hK K)
    | refine Kn.go (by assumption) ?_
    | (intro n hn; (try simp only [upd_none2, join_none_iff, ite_none, ne_eq] at hn); (try simp only [push_cast, seval, *]))
    | (intro hc)
    | fail)
    exact ⟨_, _, Weak.imp (fun F => nil_do F 220) (by (simp only [push_cast, seval, *])), rfl, rfl⟩
  simp only [if_true, vBT] at hch
  have hri2 := unhid hri hok
  cases hrr : recOk ⟨rs, rk, rv⟩ <;> rw [hrr] at hck
  · obtain ⟨rfl, rfl, rfl⟩ : D1 = [] ∧ D2 = [] ∧ D3 = 150 := by
      have h := unhid hD; rw [hok, hrr, if_neg (by simp), if_pos rfl] at h; simpa using h
    clear hD hri hpu1 hdo hge hok hrr hri2 hlO hA
    simp only [List.map_nil]
    refine ACall_of' Try.func34 rfl (Ent_of Try.func34 (by kernel_rfl) rfl) (by simp [Try.ntmps34]) ?_; simp only [Try.ntmps34, Try.results34]
    repeat' (first
    | refine AW_seq_kn fun K hK => ?_
    | refine AW_block ?_
    | (refine does_call rfl rfl ?_; simp only [push_cast, seval, *]; refine ACall.monoP (hch _) ?_; (try simp only [push_cast, seval, *]))
    | (refine does_call rfl rfl ?_; simp only [push_cast, seval, *]; refine ACall.monoP (hck _) ?_; (try simp only [push_cast, seval, *]))
    | (refine does_call rfl rfl ?_; simp only [push_cast, seval, *]; refine ACall.monoP (refDo_p ⟨_, _, _, _, _⟩ ⟨_, _⟩ _ (by assumption) (by assumption) _) ?_; (try simp only [push_cast, seval, *]))
    | (refine does_call rfl rfl ?_; simp only [push_cast, seval, *]; refine ACall.monoP (rget_p _ (by assumption) ⟨_, _, _⟩ _) ?_; (try simp only [push_cast, seval, *]))
    | ((first
      | refine AW_region_draw (id := 5) E0 (fun f => [].contains f) dLTS0 dATS0 mixed (by kernel_rfl) ?_
      | refine AW_region E0 ?_ | refine AW_ret ?_ | refine AW_exit ?_ | refine AW_skip ?_ | unfold retQ); try simp only [push_cast, seval, *])
    | (apply AW_cond; (case hc => (simp only [push_cast, seval]; rfl)); all_goals (intro hc; first | (exfalso; simp only [push_cast, seval, *] at hc; done) | (exact absurd hc (by decide)) | ((try first | rw [Bool.not_true] at hc | rw [Bool.not_false] at hc); first | (with_reducible replace hc := tTT hc); clear hc | (with_reducible replace hc := tFF hc); clear hc | (have hp := hc; try simp only [decide_eq_true_eq, decide_eq_false_iff_not, bA, bB, bC, bD, bE, bF, bG, bH] at hp))))
    | (refine Kn.go hK ?_; clear hK K)
    | refine Kn.go (by assumption) ?_
    | (intro n hn; (try simp only [upd_none2, join_none_iff, ite_none, ne_eq] at hn); (try simp only [push_cast, seval, *]))
    | (intro hc)
    | fail)
    exact ⟨_, _, Weak.imp (fun F => nil_do F 150) (by (simp only [push_cast, seval, *])), rfl, rfl⟩
  by_cases he : e = 0
  · subst he
    obtain ⟨rfl, rfl, rfl⟩ : D1 = S ∧ D2 = vals.map (recV ⟨rs, rk, rv⟩) ∧ D3 = 0 := by
      have h := unhid hD; rw [hok, hrr, if_neg (by simp), if_neg (by simp), if_neg (by simp)] at h; simpa using h
    have hvl : vals.length ≤ 1 := hdl
    clear hD hri hok hrr hlO hA
    refine ACall_of' Try.func34 rfl (Ent_of Try.func34 (by kernel_rfl) rfl) (by simp [Try.ntmps34]) ?_; simp only [Try.ntmps34, Try.results34]
    repeat' (first
    | refine AW_seq_kn fun K hK => ?_
    | refine AW_block ?_
    | (refine does_call rfl rfl ?_; simp only [push_cast, seval, *]; refine ACall.monoP (hch _) ?_; (try simp only [push_cast, seval, *]))
    | (refine does_call rfl rfl ?_; simp only [push_cast, seval, *]; refine ACall.monoP (hck _) ?_; (try simp only [push_cast, seval, *]))
    | (refine does_call rfl rfl ?_; simp only [push_cast, seval, *]; refine ACall.monoP (hge _) ?_; (try simp only [push_cast, seval, *]))
    | (refine does_call rfl rfl ?_; simp only [push_cast, seval, *]; refine ACall.monoP (unhid hdo _) ?_; (try simp only [push_cast, seval, *]))
    | (refine does_call rfl rfl ?_; simp only [push_cast, seval, *]; refine ACall.monoP (refDo_p ⟨_, _, _, _, _⟩ ⟨_, _⟩ _ (by assumption) (by assumption) _) ?_; (try simp only [push_cast, seval, *]))
    | (refine does_call rfl rfl ?_; simp only [push_cast, seval, *]; refine ACall.monoP (rget_p _ (by assumption) ⟨_, _, _⟩ _) ?_; (try simp only [push_cast, seval, *]))
    | ((first
      | refine AW_region_draw (id := 5) E0 (fun f => [].contains f) dLTS0 dATS0 mixed (by kernel_rfl) ?_
      | refine AW_region E0 ?_ | refine AW_ret ?_ | refine AW_exit ?_ | refine AW_skip ?_ | unfold retQ); try simp only [push_cast, seval, *])
    | (apply AW_cond; (case hc => (simp only [push_cast, seval]; rfl)); all_goals (intro hc; first | (exfalso; simp only [push_cast, seval, *] at hc; done) | (exact absurd hc (by decide)) | ((try first | rw [Bool.not_true] at hc | rw [Bool.not_false] at hc); first | (with_reducible replace hc := tTT hc); clear hc | (with_reducible replace hc := tFF hc); clear hc | (have hp := hc; try simp only [decide_eq_true_eq, decide_eq_false_iff_not, bA, bB, bC, bD, bE, bF, bG, bH] at hp))))
    | (refine Kn.go hK ?_; clear hK K)
    | refine Kn.go (by assumption) ?_
    | (intro n hn; (try simp only [upd_none2, join_none_iff, ite_none, ne_eq] at hn); (try simp only [push_cast, seval, *]))
    | (intro hc)
    | fail)
    rename_i n3 h3 n4 h4 n5 h5 n6 h6
    generalize n = n9 at *
    obtain ⟨Hs, hHs⟩ : ∃ Hs : Heap, Hs = upd (upd (upd (upd (upd H n3 (.r 24 5 1 [[.c (.int .i64 ot), .c (.int .i64 ow), .l 1 (oi.map i1), .c (.int .i64 oA), .c (.int .i64 oB)]])) n4 (.r 49 1 1 [[.l 4 (T.map KC.av)]])) n5 (.r 54 3 1 [[.c (.int .i64 rs), .c (.int .i64 rk), .c (.int .i64 rv)]])) n6 (.r 49 1 1 [[.c (.slice none 0 0)]])) n9 (.r 26 2 1 [[.c (.int .i64 n1), .c (.int .i64 t1)]]) := ⟨_, rfl⟩
    have g4 : Hs n4 = some (.r 49 1 1 [[.l 4 (T.map KC.av)]]) := by rw [hHs]; simp only [push_cast, seval, *]
    have g5 : Hs n5 = some (.r 54 3 1 [[.c (.int .i64 rs), .c (.int .i64 rk), .c (.int .i64 rv)]]) := by rw [hHs]; simp only [push_cast, seval, *]
    have g6 : Hs n6 = some (.r 49 1 1 [[.c (.slice none 0 0)]]) := by rw [hHs]; simp only [push_cast, seval, *]
    have g9 : Hs n9 = some (.r 26 2 1 [[.c (.int .i64 n1), .c (.int .i64 t1)]]) := by rw [hHs]; exact upd_same _ _ _
    have hm6 : H n6 = none := h6.2.2.2
    have hle : Heap.le H Hs := by rw [hHs]; (repeat' (first | exact Heap.le_refl _ | refine hle_upd2 ?_ _ _ | (refine Heap.le_new ?_ ?_; rotate_left 1; focus (first | assumption | (simp only [upd_none2, upd_get, ne_eq, push_cast, seval, *]; done) | (simp [upd_get, *]; done)))))
    rw [← hHs]
    clear hHs h3 h4 h5 h6 hn hch hck hge hdo
    replace hle := Lib.hid hle
    refine AW_loopX (σ := List Rec × AV × Heap) vals.length (fun j w => w.1 = (vals.take j).map (recV ⟨rs, rk, rv⟩) ∧ OwnL w.2.2 w.2.1 54 3 (w.1.map Rec.av) Hs) (fun j w => [(4, .p n4 1 0 0), (5, .p n5 3 0 0), (6, .p n6 1 0 0), (9, .p n9 2 0 0), (12, w.2.1), (40, .l 1 (vals.map i1)), (41, ci vals.length), (42, ci j)]) (fun _ w => w.2.2) ([], .c (.slice none 0 0), Hs) ⟨by simp, OwnL.nil _ _ _⟩ ?_ ?_ ?_ ?_
    · (first | trivial | (simp only [push_cast, seval, *]; done))
    · exact Heap.le_refl _
    · rintro j ⟨O2, y2, B2⟩ hj ⟨hO2, ho⟩
      simp only at hO2 ho
      have hv := List.getElem?_eq_getElem (l := vals) hj; generalize vals[j] = v at hv; have hvm := List.mem_of_getElem? hv; have hjl : (j : Int) < vals.length := (by omega); have hjw : IntKind.i64.wrap ((j : Int) + 1) = (j : Int) + 1 := wrap_i64 (by omega) (by omega)
      have hi1 : i1 v = [.c (.int .i64 v)] := rfl
      have hO3 : O2 ++ [recV ⟨rs, rk, rv⟩ v] = (vals.take (j + 1)).map (recV ⟨rs, rk, rv⟩) := by
        rw [hO2, take_snoc_map _ hv]
      have hOl2 : O2.length ≤ 1 := by
        rw [hO2]; simp only [List.length_map, List.length_take]; omega
      have k5 := ho.get g5
      have hcy := ho.cs
      clear hO2
      replace ho := Lib.hid ho
      replace hO3 := Lib.hid hO3
      repeat' (first
    | refine AW_seq_kn fun K hK => ?_
    | refine AW_block ?_
    | (refine does_call rfl rfl ?_; simp only [push_cast, seval, *]; refine ACall.monoP (refDo_p ⟨_, _, _, _, _⟩ ⟨_, _⟩ _ (by assumption) (by assumption) _) ?_; (try simp only [push_cast, seval, *]))
    | (refine does_call rfl rfl ?_; simp only [push_cast, seval, *]; refine ACall.monoP (rget_p _ (by assumption) ⟨_, _, _⟩ _) ?_; (try simp only [push_cast, seval, *]))
    | ((first
      | refine AW_region_draw (id := 5) E0 (fun f => [].contains f) dLTS0 dATS0 mixed (by kernel_rfl) ?_
      | refine AW_region E0 ?_ | refine AW_ret ?_ | refine AW_exit ?_ | refine AW_skip ?_ | unfold retQ); try simp only [push_cast, seval, *])
    | (apply AW_cond; (case hc => (simp only [push_cast, seval]; rfl)); all_goals (intro hc; first | (exfalso; simp only [push_cast, seval, *] at hc; done) | (exact absurd hc (by decide)) | ((try first | rw [Bool.not_true] at hc | rw [Bool.not_false] at hc); first | (with_reducible replace hc := tTT hc); clear hc | (with_reducible replace hc := tFF hc); clear hc | (have hp := hc; try simp only [decide_eq_true_eq, decide_eq_false_iff_not, bA, bB, bC, bD, bE, bF, bG, bH] at hp))))
    | (refine Kn.go hK ?_; clear hK K)
    | refine Kn.go (by assumption) ?_
    | (intro n hn; (try simp only [upd_none2, join_none_iff, ite_none, ne_eq] at hn); (try simp only [push_cast, seval, *]))
    | (intro hc)
    | fail)
      refine does_app1 rfl rfl rfl rfl (unhid ho) hn tE50 tS54 tB54 tZ54 rfl (by decide) ?_ ?_ ?_
      · simp only [List.length_map, maxLen]; omega
      · simp only [List.length_map]; omega
      intro y' H' hown'
      have ho2 : OwnL H' y' 54 3 ((O2 ++ [recV ⟨rs, rk, rv⟩ v]).map Rec.av) Hs := by rw [List.map_append]; exact hown'
      have hcy2 := hown'.cs
      clear hown' ho k5 hcy
      replace ho2 := Lib.hid ho2
      (try simp only [push_cast, seval, *])
      repeat' (first
    | refine AW_seq_kn fun K hK => ?_
    | refine AW_block ?_
    | (refine does_call rfl rfl ?_; simp only [push_cast, seval, *]; refine ACall.monoP (refDo_p ⟨_, _, _, _, _⟩ ⟨_, _⟩ _ (by assumption) (by assumption) _) ?_; (try simp only [push_cast, seval, *]))
    | (refine does_call rfl rfl ?_; simp only [push_cast, seval, *]; refine ACall.monoP (rget_p _ (by assumption) ⟨_, _, _⟩ _) ?_; (try simp only [push_cast, seval, *]))
    | ((first
      | refine AW_region_draw (id := 5) E0 (fun f => [].contains f) dLTS0 dATS0 mixed (by kernel_rfl) ?_
      | refine AW_region E0 ?_ | refine AW_ret ?_ | refine AW_exit ?_ | refine AW_skip ?_ | unfold retQ); try simp only [push_cast, seval, *])
    | (apply AW_cond; (case hc => (simp only [push_cast, seval]; rfl)); all_goals (intro hc; first | (exfalso; simp only [push_cast, seval, *] at hc; done) | (exact absurd hc (by decide)) | ((try first | rw [Bool.not_true] at hc | rw [Bool.not_false] at hc); first | (with_reducible replace hc := tTT hc); clear hc | (with_reducible replace hc := tFF hc); clear hc | (have hp := hc; try simp only [decide_eq_true_eq, decide_eq_false_iff_not, bA, bB, bC, bD, bE, bF, bG, bH] at hp))))
    | (refine Kn.go hK ?_; clear hK K)
    | refine Kn.go (by assumption) ?_
    | (intro n hn; (try simp only [upd_none2, join_none_iff, ite_none, ne_eq] at hn); (try simp only [push_cast, seval, *]))
    | (intro hc)
    | fail)
      exact ⟨(O2 ++ [recV ⟨rs, rk, rv⟩ v], y', H'), ⟨unhid hO3, unhid ho2⟩, by (first | trivial | (simp only [push_cast, seval, *]; done)), Heap.le_refl _⟩
    · rintro ⟨O2, y2, B2⟩ ⟨hO2, ho⟩
      simp only at hO2 ho
      rw [List.take_length] at hO2
      subst hO2
      have k4 := ho.get g4
      have k5 := ho.get g5
      have k6 := ho.get g6
      have k9 := ho.get g9
      have hcy := ho.cs
      have hpp := unhid hpu1 hri2
      have ht := ho.turn g6 (.r 49 1 1 [[.l 4 (D1.map KC.av)]])
      have hfin : Heap.le H (upd Hs n6 (.r 49 1 1 [[.l 4 (D1.map KC.av)]])) := fun q b hq => by
        have c6 : ¬ q = n6 := by rintro rfl; rw [hm6] at hq; cases hq
        rw [upd_ne c6]; exact unhid hle q b hq
      clear ho
      replace ht := Lib.hid ht
      replace hfin := Lib.hid hfin
      repeat' (first
    | refine AW_seq_kn fun K hK => ?_
    | refine AW_block ?_
    | (refine does_call rfl rfl ?_; simp only [push_cast, seval, *]; refine ACall.monoP (hpp _) ?_; (try simp only [push_cast, seval, *]))
    | (refine does_call rfl rfl ?_; simp only [push_cast, seval, *]; refine ACall.monoP (refDo_p ⟨_, _, _, _, _⟩ ⟨_, _⟩ _ (by assumption) (by assumption) _) ?_; (try simp only [push_cast, seval, *]))
    | (refine does_call rfl rfl ?_; simp only [push_cast, seval, *]; refine ACall.monoP (rget_p _ (by assumption) ⟨_, _, _⟩ _) ?_; (try simp only [push_cast, seval, *]))
    | ((first
      | refine AW_region_draw (id := 5) E0 (fun f => [].contains f) dLTS0 dATS0 mixed (by kernel_rfl) ?_
      | refine AW_region E0 ?_ | refine AW_ret ?_ | refine AW_exit ?_ | refine AW_skip ?_ | unfold retQ); try simp only [push_cast, seval, *])
    | (apply AW_cond; (case hc => (simp only [push_cast, seval]; rfl)); all_goals (intro hc; first | (exfalso; simp only [push_cast, seval, *] at hc; done) | (exact absurd hc (by decide)) | ((try first | rw [Bool.not_true] at hc | rw [Bool.not_false] at hc); first | (with_reducible replace hc := tTT hc); clear hc | (with_reducible replace hc := tFF hc); clear hc | (have hp := hc; try simp only [decide_eq_true_eq, decide_eq_false_iff_not, bA, bB, bC, bD, bE, bF, bG, bH] at hp))))
    | (refine Kn.go hK ?_; clear hK K)
    | refine Kn.go (by assumption) ?_
    | (intro n hn; (try simp only [upd_none2, join_none_iff, ite_none, ne_eq] at hn); (try simp only [push_cast, seval, *]))
    | (intro hc)
    | fail)
      exact ⟨_, _, ((unhid ht).weak fun F F' hF hi _ => Imp.t (Imps.cons (Imp.refl hF _) id (Imps.cons hi (fun _ => rfl) (Imps.cons (Imp.refl hF _) id Imps.nil)))).trans (Weak.less (unhid hfin)), rfl, rfl⟩
  · obtain ⟨rfl, rfl, rfl⟩ : D1 = [] ∧ D2 = [] ∧ D3 = e := by
      have h := unhid hD; rw [hok, hrr, if_neg (by simp), if_neg (by simp), if_pos he] at h; simpa using h
    have heF : (D3 = 0) = False := by simp [he]
    clear hD hri hpu1 hok hrr hri2 hlO hA he
    simp only [List.map_nil]
    refine ACall_of' Try.func34 rfl (Ent_of Try.func34 (by kernel_rfl) rfl) (by simp [Try.ntmps34]) ?_; simp only [Try.ntmps34, Try.results34]
    repeat' (first
    | refine AW_seq_kn fun K hK => ?_
    | refine AW_block ?_
    | (refine does_call rfl rfl ?_; simp only [push_cast, seval, *]; refine ACall.monoP (hch _) ?_; (try simp only [push_cast, seval, *]))
    | (refine does_call rfl rfl ?_; simp only [push_cast, seval, *]; refine ACall.monoP (hck _) ?_; (try simp only [push_cast, seval, *]))
    | (refine does_call rfl rfl ?_; simp only [push_cast, seval, *]; refine ACall.monoP (hge _) ?_; (try simp only [push_cast, seval, *]))
    | (refine does_call rfl rfl ?_; simp only [push_cast, seval, *]; refine ACall.monoP (unhid hdo _) ?_; (try simp only [push_cast, seval, *]))
    | (refine does_call rfl rfl ?_; simp only [push_cast, seval, *]; refine ACall.monoP (refDo_p ⟨_, _, _, _, _⟩ ⟨_, _⟩ _ (by assumption) (by assumption) _) ?_; (try simp only [push_cast, seval, *]))
    | (refine does_call rfl rfl ?_; simp only [push_cast, seval, *]; refine ACall.monoP (rget_p _ (by assumption) ⟨_, _, _⟩ _) ?_; (try simp only [push_cast, seval, *]))
    | ((first
      | refine AW_region_draw (id := 5) E0 (fun f => [].contains f) dLTS0 dATS0 mixed (by kernel_rfl) ?_
      | refine AW_region E0 ?_ | refine AW_ret ?_ | refine AW_exit ?_ | refine AW_skip ?_ | unfold retQ); try simp only [push_cast, seval, *])
    | (apply AW_cond; (case hc => (simp only [push_cast, seval]; rfl)); all_goals (intro hc; first | (exfalso; simp only [push_cast, seval, *] at hc; done) | (exact absurd hc (by decide)) | ((try first | rw [Bool.not_true] at hc | rw [Bool.not_false] at hc); first | (with_reducible replace hc := tTT hc); clear hc | (with_reducible replace hc := tFF hc); clear hc | (have hp := hc; try simp only [decide_eq_true_eq, decide_eq_false_iff_not, bA, bB, bC, bD, bE, bF, bG, bH] at hp))))
    | (refine Kn.go hK ?_; clear hK K)
    | refine Kn.go (by assumption) ?_
    | (intro n hn; (try simp only [upd_none2, join_none_iff, ite_none, ne_eq] at hn); (try simp only [push_cast, seval, *]))
    | (intro hc)
    | fail)
    exact ⟨_, _, Weak.imp (fun F => nil_do F _) (by (simp only [push_cast, seval, *])), rfl, rfl⟩
end Go.Proofs.Ytmkncbddjnaklaa
