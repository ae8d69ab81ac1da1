/- Walks: Run, as the document says it. -/
import Derived.Test.YtmkncbddjnaklaaTV
import Derived.Test.YtmkncbddjnaklaaTI
namespace Go.Proofs.Ytmkncbddjnaklaa
open Go.RowKit
open Nat renaming reduceEqDiff → nA, reduceLT → nB, reduceLeDiff → nC, reduceAdd → nD, reduceMul → nE, reduceSub → nF, reduceBEq → nG
open Int renaming reduceToNat → iA, reduceLT → iB, reduceLE → iC, reduceEq → iD
open Bool renaming and_eq_true → bA, or_eq_true → bB, or_eq_false_iff → bC, and_eq_false_iff → bD, not_eq_true' → bE, not_eq_false' → bF, not_true → bG, not_false → bH
set_option linter.all false
set_option maxHeartbeats 4000000
attribute [local irreducible] AW Does ACall tE tS tB tZ
def dLTW0 : List En := [(0, true, []), (1, false, []), (2, false, []), (3, false, [0]), (4, false, []), (5, false, [])]
def dATW0 : List (List Nat) := [[], [], [], [1, 2], [0, 1, 2, 3], [0, 1, 2, 3, 4]]
attribute [push_cast] dLTW0

theorem DoT_len (o : OpD) (T : List KC) (r : Rec) : (DoT o T r).1.length ≤ T.length + 1 ∧ (DoT o T r).2.1.length ≤ 1 := by
  rw [DoT_eq]
  have h1 := setS_len T r (runS o (getS T r) [r.v]).1
  have h2 := runS1_len o (getS T r) r.v
  repeat' split
  all_goals simp
  exact ⟨h1, h2⟩
def rRunT (o : OpD) (T : List KC) (l : List Rec) : List KC × List Rec × Int := if tOk T = false then ([], [], 220) else if 40 < l.length then ([], [], 3) else rfGo o T [] l
theorem rRun_p (o : OpD) (hlO : o.ins.length ≤ maxLen) (hA : o.A ≤ 9223372036854775807) (T : List KC) (hT : T.length ≤ 80000) (l : List Rec) (hl : l.length ≤ maxLen) :
    Pure Try.prog 38 [.g (OpD.av o), .g [.l 4 (T.map KC.av)], .l 3 (l.map Rec.av)] (.t [.g [.l 4 ((rRunT o T l).1.map KC.av)], .l 3 ((rRunT o T l).2.1.map Rec.av), .c (.int .i64 (rRunT o T l).2.2)]) := by
  intro H
  have hch := tright_p T (by unfold maxLen; omega)
  have hdo := fun T1 (h : List.length T1 ≤ 90000) r => rDo_p o hlO hA T1 h r
  have hD : rRunT o T l = if tOk T = false then ([], [], 220) else if 40 < l.length then ([], [], 3) else rfGo o T [] l := rfl
  generalize rRunT o T l = D at *
  obtain ⟨D1, D2, D3⟩ := D
  have hop : OpD.av o = [.c (.int .i64 o.tag), .c (.int .i64 o.width), .l 1 (o.ins.map i1), .c (.int .i64 o.A), .c (.int .i64 o.B)] := rfl
  simp only [hop] at hdo
  rw [hop]
  unfold maxLen at hl
  replace hdo := Lib.hid hdo
  replace hD := Lib.hid hD
  clear hlO hA hop
  cases hok : tOk T <;> rw [hok] at hch
  · obtain ⟨rfl, rfl, rfl⟩ : D1 = [] ∧ D2 = [] ∧ D3 = 220 := by
      have h := unhid hD; rw [hok, if_pos rfl] at h; simpa using h
    simp only [Bool.false_eq_true, if_false, vBF] at hch
    clear hD hdo hok
    simp only [List.map_nil]
    refine ACall_of' Try.func38 rfl (Ent_of Try.func38 (by kernel_rfl) rfl) (by simp [Try.ntmps38]) ?_; simp only [Try.ntmps38, Try.results38]
    repeat' (first
    | refine AW_seq_kn fun K hK => ?_
    | refine AW_block ?_
    | (refine does_call rfl rfl ?_; simp only [push_cast, seval, *]; refine ACall.monoP (hch _) ?_; (try simp only [push_cast, seval, *]))
    | (refine does_call rfl rfl ?_; simp only [push_cast, seval, *]; refine ACall.monoP (copy12_p _ (by assumption) _) ?_; (try simp only [push_cast, seval, *]))
    | ((first
      | refine AW_region_draw (id := 12) E0 (fun f => [].contains f) dLTW0 dATW0 mixed (by kernel_rfl) ?_
      | refine AW_region E0 ?_ | refine AW_ret ?_ | refine AW_exit ?_ | refine AW_skip ?_ | unfold retQ); try simp only [push_cast, seval, *])
    | (apply AW_cond; (case hc => (simp only [push_cast, seval]; rfl)); all_goals (intro hc; first | (exfalso; simp only [push_cast, seval, *] at hc; done) | (exact absurd hc (by decide)) | ((try first | rw [Bool.not_true] at hc | rw [Bool.not_false] at hc); first | (with_reducible replace hc := tTT hc); clear hc | (with_reducible replace hc := tFF hc); clear hc | (have hp := hc; try simp only [decide_eq_true_eq, decide_eq_false_iff_not, bA, bB, bC, bD, bE, bF, bG, bH] at hp))))
    | (refine Kn.go hK ?_; clear hK K)
    | refine Kn.go (by assumption) ?_
    | (intro n hn; (try simp only [upd_none2, join_none_iff, ite_none, ne_eq] at hn); (try simp only [push_cast, seval, *]))
    | (intro hc)
    | fail)
    exact ⟨_, _, Weak.imp (fun F => nil_do F 220) (by (simp only [push_cast, seval, *])), rfl, rfl⟩
  simp only [if_true, vBT] at hch
  by_cases hc : 40 < l.length
  · have hcT : ((40 : Int) < l.length) = True := by simp; omega
    obtain ⟨rfl, rfl, rfl⟩ : D1 = [] ∧ D2 = [] ∧ D3 = 3 := by
      have h := unhid hD; rw [hok, if_neg (by simp), if_pos hc] at h; simpa using h
    clear hD hdo hok hc
    simp only [List.map_nil]
    refine ACall_of' Try.func38 rfl (Ent_of Try.func38 (by kernel_rfl) rfl) (by simp [Try.ntmps38]) ?_; simp only [Try.ntmps38, Try.results38]
    repeat' (first
    | refine AW_seq_kn fun K hK => ?_
    | refine AW_block ?_
    | (refine does_call rfl rfl ?_; simp only [push_cast, seval, *]; refine ACall.monoP (hch _) ?_; (try simp only [push_cast, seval, *]))
    | (refine does_call rfl rfl ?_; simp only [push_cast, seval, *]; refine ACall.monoP (copy12_p _ (by assumption) _) ?_; (try simp only [push_cast, seval, *]))
    | ((first
      | refine AW_region_draw (id := 12) E0 (fun f => [].contains f) dLTW0 dATW0 mixed (by kernel_rfl) ?_
      | refine AW_region E0 ?_ | refine AW_ret ?_ | refine AW_exit ?_ | refine AW_skip ?_ | unfold retQ); try simp only [push_cast, seval, *])
    | (apply AW_cond; (case hc => (simp only [push_cast, seval]; rfl)); all_goals (intro hc; first | (exfalso; simp only [push_cast, seval, *] at hc; done) | (exact absurd hc (by decide)) | ((try first | rw [Bool.not_true] at hc | rw [Bool.not_false] at hc); first | (with_reducible replace hc := tTT hc); clear hc | (with_reducible replace hc := tFF hc); clear hc | (have hp := hc; try simp only [decide_eq_true_eq, decide_eq_false_iff_not, bA, bB, bC, bD, bE, bF, bG, bH] at hp))))
    | (refine Kn.go hK ?_; clear hK K)
    | refine Kn.go (by assumption) ?_
    | (intro n hn; (try simp only [upd_none2, join_none_iff, ite_none, ne_eq] at hn); (try simp only [push_cast, seval, *]))
    | (intro hc)
    | fail)
    exact ⟨_, _, Weak.imp (fun F => nil_do F 3) (by (simp only [push_cast, seval, *])), rfl, rfl⟩
  have hcF : ((40 : Int) < l.length) = False := by simp; omega
  have hD2 : (D1, D2, D3) = rfGo o T [] l := by
    have h := unhid hD; rw [hok, if_neg (by simp), if_neg hc] at h; exact h
  clear hD hok
  replace hD2 := Lib.hid hD2
  refine ACall_of' Try.func38 rfl (Ent_of Try.func38 (by kernel_rfl) rfl) (by simp [Try.ntmps38]) ?_; simp only [Try.ntmps38, Try.results38]
  repeat' (first
    | refine AW_seq_kn fun K hK => ?_
    | refine AW_block ?_
    | (refine does_call rfl rfl ?_; simp only [push_cast, seval, *]; refine ACall.monoP (hch _) ?_; (try simp only [push_cast, seval, *]))
    | (refine does_call rfl rfl ?_; simp only [push_cast, seval, *]; refine ACall.monoP (copy12_p _ (by assumption) _) ?_; (try simp only [push_cast, seval, *]))
    | ((first
      | refine AW_region_draw (id := 12) E0 (fun f => [].contains f) dLTW0 dATW0 mixed (by kernel_rfl) ?_
      | refine AW_region E0 ?_ | refine AW_ret ?_ | refine AW_exit ?_ | refine AW_skip ?_ | unfold retQ); try simp only [push_cast, seval, *])
    | (apply AW_cond; (case hc => (simp only [push_cast, seval]; rfl)); all_goals (intro hc; first | (exfalso; simp only [push_cast, seval, *] at hc; done) | (exact absurd hc (by decide)) | ((try first | rw [Bool.not_true] at hc | rw [Bool.not_false] at hc); first | (with_reducible replace hc := tTT hc); clear hc | (with_reducible replace hc := tFF hc); clear hc | (have hp := hc; try simp only [decide_eq_true_eq, decide_eq_false_iff_not, bA, bB, bC, bD, bE, bF, bG, bH] at hp))))
    | (refine Kn.go hK ?_; clear hK K)
    | refine Kn.go (by assumption) ?_
    | (intro n hn; (try simp only [upd_none2, join_none_iff, ite_none, ne_eq] at hn); (try simp only [push_cast, seval, *]))
    | (intro hc)
    | fail)
  rename_i n3 h3 n4 h4
  generalize n = n6 at *
  obtain ⟨Hs, hHs⟩ : ∃ Hs : Heap, Hs = upd (upd (upd H n3 (.r 24 5 1 [[.c (.int .i64 o.tag), .c (.int .i64 o.width), .l 1 (o.ins.map i1), .c (.int .i64 o.A), .c (.int .i64 o.B)]])) n4 (.r 49 1 1 [[.l 4 (T.map KC.av)]])) n6 (.r 49 1 1 [[.c (.slice none 0 0)]]) := ⟨_, rfl⟩
  have g3 : Hs n3 = some (.r 24 5 1 [[.c (.int .i64 o.tag), .c (.int .i64 o.width), .l 1 (o.ins.map i1), .c (.int .i64 o.A), .c (.int .i64 o.B)]]) := by rw [hHs]; simp only [push_cast, seval, *]
  have g4 : Hs n4 = some (.r 49 1 1 [[.l 4 (T.map KC.av)]]) := by rw [hHs]; simp only [push_cast, seval, *]
  have g6 : Hs n6 = some (.r 49 1 1 [[.c (.slice none 0 0)]]) := by rw [hHs]; exact upd_same _ _ _
  have c34 : ¬ n3 = n4 := h4.1.2
  have c64 : ¬ n6 = n4 := hn.1.1
  have hm4 : H n4 = none := h4.2
  have hm6 : H n6 = none := hn.2.2
  have hle : Heap.le H Hs := by rw [hHs]; (repeat' (first | exact Heap.le_refl _ | refine hle_upd2 ?_ _ _ | (refine Heap.le_new ?_ ?_; rotate_left 1; focus (first | assumption | (simp only [upd_none2, upd_get, ne_eq, push_cast, seval, *]; done) | (simp [upd_get, *]; done)))))
  have hfin : ∀ a b, Heap.le H (upd (upd Hs n4 a) n6 b) := fun a b q z hq => by
    have c4 : ¬ q = n4 := by rintro rfl; rw [hm4] at hq; cases hq
    have c6 : ¬ q = n6 := by rintro rfl; rw [hm6] at hq; cases hq
    rw [upd_ne c6, upd_ne c4]; exact hle q z hq
  rw [← hHs]
  clear hHs h3 h4 hn hch hle
  replace hfin := Lib.hid hfin
  refine AW_loopX (σ := List KC × List Rec × AV × Heap) l.length (fun k w => (D1, D2, D3) = rfGo o w.1 w.2.1 (l.drop k) ∧ w.1.length ≤ T.length + k ∧ w.2.1.length ≤ k ∧ OwnL w.2.2.2 w.2.2.1 54 3 (w.2.1.map Rec.av) (upd Hs n4 (bxT (.l 4 (w.1.map KC.av))))) (fun k w => [(3, .p n3 5 0 0), (4, .p n4 1 0 0), (6, .p n6 1 0 0), (9, w.2.2.1), (25, .l 3 (l.map Rec.av)), (26, ci l.length), (27, ci k)]) (fun _ w => w.2.2.2) (T, [], .c (.slice none 0 0), Hs) ⟨by rw [List.drop_zero]; exact unhid hD2, by simp, by simp, by rw [upd_self g4]; exact OwnL.nil _ _ _⟩ ?_ ?_ ?_ ?_
  · (first | trivial | (simp only [push_cast, seval, *]; done))
  · exact Heap.le_refl _
  · rintro k ⟨T1, O1, y1, B1⟩ hk ⟨hE, hTl, hOl, ho⟩
    simp only at hE hTl hOl ho
    have hr := List.getElem?_eq_getElem (l := l) hk; generalize l[k] = r at hr; have hrm := List.mem_of_getElem? hr; have hkl : (k : Int) < l.length := (by omega); have hkw : IntKind.i64.wrap ((k : Int) + 1) = (k : Int) + 1 := wrap_i64 (by omega) (by omega)
    have htr : List.take 3 (Rec.av r) = Rec.av r := rfl
    rw [drop_get hr] at hE
    simp only [rfGo] at hE
    have hd1 := unhid hdo T1 (by omega) r
    have hln := DoT_len o T1 r
    generalize DoT o T1 r = R at *
    obtain ⟨T2, O2, e⟩ := R
    simp only at hd1 hln hE
    have k3 := ho.get (m := n3) (by rw [upd_ne c34]; exact g3)
    have k4 := ho.get (upd_same _ _ _)
    have k6 := ho.get (m := n6) (by rw [upd_ne c64]; exact g6)
    have hn3 := ne_old k3
    have hn4 := ne_old k4
    have hn6 := ne_old k6
    have hcy := ho.cs
    have hHB : Heap.le H B1 := fun q z hq => by
      have c4 : ¬ q = n4 := by rintro rfl; rw [hm4] at hq; cases hq
      have c6 : ¬ q = n6 := by rintro rfl; rw [hm6] at hq; cases hq
      have h1 := unhid hfin (bxT (.l 4 (T1.map KC.av))) (.r 49 1 1 [[.c (.slice none 0 0)]]) q z hq
      rw [upd_ne c6] at h1
      exact ho.le q z h1
    obtain ⟨rs, rk, rv⟩ := r
    simp only [Rec.av] at hd1
    by_cases he : e = 0
    · subst he
      rw [if_neg (by simp)] at hE
      clear hdo hD2 hfin
      have hl1 : O1.length + O2.length ≤ k + 1 := by omega
      have hl2 : T2.length ≤ T.length + (k + 1) := by omega
      replace hE := Lib.hid hE
      replace ho := Lib.hid ho
      repeat' (first
    | refine AW_seq_kn fun K hK => ?_
    | refine AW_block ?_
    | (refine does_call rfl rfl ?_; simp only [push_cast, seval, *]; refine ACall.monoP (hd1 _) ?_; (try simp only [push_cast, seval, *]))
    | (refine does_call rfl rfl ?_; simp only [push_cast, seval, *]; refine ACall.monoP (copy12_p _ (by assumption) _) ?_; (try simp only [push_cast, seval, *]))
    | ((first
      | refine AW_region_draw (id := 12) E0 (fun f => [].contains f) dLTW0 dATW0 mixed (by kernel_rfl) ?_
      | refine AW_region E0 ?_ | refine AW_ret ?_ | refine AW_exit ?_ | refine AW_skip ?_ | unfold retQ); try simp only [push_cast, seval, *])
    | (apply AW_cond; (case hc => (simp only [push_cast, seval]; rfl)); all_goals (intro hc; first | (exfalso; simp only [push_cast, seval, *] at hc; done) | (exact absurd hc (by decide)) | ((try first | rw [Bool.not_true] at hc | rw [Bool.not_false] at hc); first | (with_reducible replace hc := tTT hc); clear hc | (with_reducible replace hc := tFF hc); clear hc | (have hp := hc; try simp only [decide_eq_true_eq, decide_eq_false_iff_not, bA, bB, bC, bD, bE, bF, bG, bH] at hp))))
    | (refine Kn.go hK ?_; clear hK K)
    | refine Kn.go (by assumption) ?_
    | (intro n hn; (try simp only [upd_none2, join_none_iff, ite_none, ne_eq] at hn); (try simp only [push_cast, seval, *]))
    | (intro hc)
    | fail)
      rename_i n11 h11
      have c411 : ¬ n4 = n11 := of_eq_false (hn4 n11 h11).1
      have c412 : ¬ n4 = n := of_eq_false (hn4 n hn.2).1
      have u11 := (unhid ho).none h11
      have u12 := (unhid ho).none hn.2
      have own1 := ((unhid ho).new h11 (.r 54 3 1 [[.c (.int .i64 rs), .c (.int .i64 rk), .c (.int .i64 rv)]])).new (m := n) (by simp only [upd_none2]; exact hn) (.r 49 1 1 [[.l 4 (T2.map KC.av)]])
      refine does_appL rfl rfl rfl own1 tE50 tS54 tB54 tZ54 rfl (by decide) ?_ ?_ ?_
      · simp only [List.length_map, maxLen]; omega
      · simp only [List.length_map]; omega
      intro y' H' hown'
      have gk : upd (upd (upd Hs n4 (bxT (.l 4 (T1.map KC.av)))) n11 (.r 54 3 1 [[.c (.int .i64 rs), .c (.int .i64 rk), .c (.int .i64 rv)]])) n (.r 49 1 1 [[.l 4 (T2.map KC.av)]]) n4 = some (bxT (.l 4 (T1.map KC.av))) := by rw [upd_ne c412, upd_ne c411]; exact upd_same _ _ _
      have kk4 := hown'.get gk
      have kk12 := hown'.get (upd_same _ _ _)
      have hcy2 := hown'.cs
      obtain ⟨H2, l1, l2⟩ := (hown'.turn gk (bxT (.l 4 (T2.map KC.av)))).cut (K := upd Hs n4 (bxT (.l 4 (T2.map KC.av)))) (fun q z hq => by
        by_cases e4 : q = n4
        · subst e4; rw [upd_same] at hq ⊢; exact hq
        · rw [upd_ne e4] at hq ⊢
          have c11 : q ≠ n11 := by rintro rfl; rw [upd_ne e4] at u11; rw [u11] at hq; cases hq
          have c12 : q ≠ n := by rintro rfl; rw [upd_ne e4] at u12; rw [u12] at hq; cases hq
          rw [upd_ne c12, upd_ne c11, upd_ne e4]; exact hq)
      rw [← List.map_append] at l2
      clear hown' own1 ho gk k3 k4 k6 hcy hn3 hn4 hn6
      replace l1 := Lib.hid l1
      replace l2 := Lib.hid l2
      (try simp only [push_cast, seval, *])
      repeat' (first
    | refine AW_seq_kn fun K hK => ?_
    | refine AW_block ?_
    | (refine does_call rfl rfl ?_; simp only [push_cast, seval, *]; refine ACall.monoP (copy12_p _ (by assumption) _) ?_; (try simp only [push_cast, seval, *]))
    | ((first
      | refine AW_region_draw (id := 12) E0 (fun f => [].contains f) dLTW0 dATW0 mixed (by kernel_rfl) ?_
      | refine AW_region E0 ?_ | refine AW_ret ?_ | refine AW_exit ?_ | refine AW_skip ?_ | unfold retQ); try simp only [push_cast, seval, *])
    | (apply AW_cond; (case hc => (simp only [push_cast, seval]; rfl)); all_goals (intro hc; first | (exfalso; simp only [push_cast, seval, *] at hc; done) | (exact absurd hc (by decide)) | ((try first | rw [Bool.not_true] at hc | rw [Bool.not_false] at hc); first | (with_reducible replace hc := tTT hc); clear hc | (with_reducible replace hc := tFF hc); clear hc | (have hp := hc; try simp only [decide_eq_true_eq, decide_eq_false_iff_not, bA, bB, bC, bD, bE, bF, bG, bH] at hp))))
    | (refine Kn.go hK ?_; clear hK K)
    | refine Kn.go (by assumption) ?_
    | (intro n hn; (try simp only [upd_none2, join_none_iff, ite_none, ne_eq] at hn); (try simp only [push_cast, seval, *]))
    | (intro hc)
    | fail)
      exact ⟨(T2, O1 ++ O2, y', H2), ⟨unhid hE, hl2, by rw [List.length_append]; exact hl1, unhid l2⟩, by (first | trivial | (simp only [push_cast, seval, *]; done)), unhid l1⟩
    · have heF : (e = 0) = False := by simp [he]
      rw [if_pos he] at hE
      obtain ⟨rfl, rfl, rfl⟩ : D1 = [] ∧ D2 = [] ∧ D3 = e := by simpa using hE
      clear hE hD2 he ho hdo hfin
      repeat' (first
    | refine AW_seq_kn fun K hK => ?_
    | refine AW_block ?_
    | (refine does_call rfl rfl ?_; simp only [push_cast, seval, *]; refine ACall.monoP (hd1 _) ?_; (try simp only [push_cast, seval, *]))
    | (refine does_call rfl rfl ?_; simp only [push_cast, seval, *]; refine ACall.monoP (copy12_p _ (by assumption) _) ?_; (try simp only [push_cast, seval, *]))
    | ((first
      | refine AW_region_draw (id := 12) E0 (fun f => [].contains f) dLTW0 dATW0 mixed (by kernel_rfl) ?_
      | refine AW_region E0 ?_ | refine AW_ret ?_ | refine AW_exit ?_ | refine AW_skip ?_ | unfold retQ); try simp only [push_cast, seval, *])
    | (apply AW_cond; (case hc => (simp only [push_cast, seval]; rfl)); all_goals (intro hc; first | (exfalso; simp only [push_cast, seval, *] at hc; done) | (exact absurd hc (by decide)) | ((try first | rw [Bool.not_true] at hc | rw [Bool.not_false] at hc); first | (with_reducible replace hc := tTT hc); clear hc | (with_reducible replace hc := tFF hc); clear hc | (have hp := hc; try simp only [decide_eq_true_eq, decide_eq_false_iff_not, bA, bB, bC, bD, bE, bF, bG, bH] at hp))))
    | (refine Kn.go hK ?_; clear hK K)
    | refine Kn.go (by assumption) ?_
    | (intro n hn; (try simp only [upd_none2, join_none_iff, ite_none, ne_eq] at hn); (try simp only [push_cast, seval, *]))
    | (intro hc)
    | fail)
      refine ⟨_, _, Weak.imp (fun F => nil_do F _) ?_, rfl, rfl⟩
      intro q z hq
      have hz := hHB q z hq
      have hne := ne_old hz
      have c6 : ¬ q = n6 := by rintro rfl; rw [hm6] at hq; cases hq
      simp only [push_cast, seval, *]
  · rintro ⟨T1, O1, y1, B1⟩ ⟨hE, hTl, hOl, ho⟩
    simp only at hE hTl hOl ho
    rw [List.drop_length] at hE
    simp only [rfGo] at hE
    obtain ⟨rfl, rfl, rfl⟩ : D1 = T1 ∧ D2 = O1 ∧ D3 = 0 := by simpa using hE
    have hcp := copy12_p D1 (by omega)
    have k4 := ho.get (upd_same _ _ _)
    have k6 := ho.get (m := n6) (by rw [upd_ne c64]; exact g6)
    have hcy := ho.cs
    have ht := ho.turn (m := n6) (by rw [upd_ne c64]; exact g6) (.r 49 1 1 [[.l 4 (D1.map KC.av)]])
    have hf2 := unhid hfin (bxT (.l 4 (D1.map KC.av))) (.r 49 1 1 [[.l 4 (D1.map KC.av)]])
    clear ho hE hD2 hdo hfin
    replace ht := Lib.hid ht
    replace hf2 := Lib.hid hf2
    repeat' (first
    | refine AW_seq_kn fun K hK => ?_
    | refine AW_block ?_
    | (refine does_call rfl rfl ?_; simp only [push_cast, seval, *]; refine ACall.monoP (hcp _) ?_; (try simp only [push_cast, seval, *]))
    | (refine does_call rfl rfl ?_; simp only [push_cast, seval, *]; refine ACall.monoP (copy12_p _ (by assumption) _) ?_; (try simp only [push_cast, seval, *]))
    | ((first
      | refine AW_region_draw (id := 12) E0 (fun f => [].contains f) dLTW0 dATW0 mixed (by kernel_rfl) ?_
      | refine AW_region E0 ?_ | refine AW_ret ?_ | refine AW_exit ?_ | refine AW_skip ?_ | unfold retQ); try simp only [push_cast, seval, *])
    | (apply AW_cond; (case hc => (simp only [push_cast, seval]; rfl)); all_goals (intro hc; first | (exfalso; simp only [push_cast, seval, *] at hc; done) | (exact absurd hc (by decide)) | ((try first | rw [Bool.not_true] at hc | rw [Bool.not_false] at hc); first | (with_reducible replace hc := tTT hc); clear hc | (with_reducible replace hc := tFF hc); clear hc | (have hp := hc; try simp only [decide_eq_true_eq, decide_eq_false_iff_not, bA, bB, bC, bD, bE, bF, bG, bH] at hp))))
    | (refine Kn.go hK ?_; clear hK K)
    | refine Kn.go (by assumption) ?_
    | (intro n hn; (try simp only [upd_none2, join_none_iff, ite_none, ne_eq] at hn); (try simp only [push_cast, seval, *]))
    | (intro hc)
    | fail)
    exact ⟨_, _, ((unhid ht).weak fun F F' hF hi _ => Imp.t (Imps.cons (Imp.refl hF _) id (Imps.cons hi (fun _ => rfl) (Imps.cons (Imp.refl hF _) id Imps.nil)))).trans (Weak.less (unhid hf2)), rfl, rfl⟩
theorem rRunT_eq (o : OpD) (T : List KC) (l : List Rec) (hk : okTab T) (hv : ∀ r ∈ l, i64b r.v) : rRunT o T l = RunD o T l := by
  unfold rRunT RunD RunT
  by_cases ht : tOk T = false
  · rw [if_pos ht, if_pos ht]
  by_cases hc : 40 < l.length
  · simp [ht, hc]
  · simp only [if_neg ht, if_neg hc]
    exact rfGo_run o l T [] (by simpa using ht) hk hv
theorem runA_len (o : OpD) : ∀ (l : List Rec) (T : List KC) (O : List Rec), (runA o T O l).1.length ≤ T.length + l.length ∧ (runA o T O l).2.1.length ≤ O.length + l.length
  | [], T, O => by simp [runA]
  | r :: l, T, O => by
    have h1 := setS_len T r (runS o (getS T r) [r.v]).1
    have h2 := runS1_len o (getS T r) r.v
    simp only [runA]
    split
    · constructor <;> simp
    · split
      · constructor <;> simp
      · have ih := runA_len o l (setS T r (runS o (getS T r) [r.v]).1) (O ++ (runS o (getS T r) [r.v]).2.1.map (recV r))
        simp only [List.length_append, List.length_map] at ih
        simp only [List.length_cons]
        omega
theorem RunD_len (o : OpD) (T : List KC) (l : List Rec) : (RunD o T l).1.length ≤ T.length + 40 ∧ (RunD o T l).2.1.length ≤ 40 := by
  unfold RunD RunT
  have h := runA_len o l T []
  split
  · simp
  · by_cases hc : 40 < l.length
    · simp [hc]
    · simp only [if_neg hc]
      split
      · simp
      · simp only [List.length_nil] at h; omega
end Go.Proofs.Ytmkncbddjnaklaa
