/- Walks: table.run. -/
import Derived.Test.YtmkncbddjnaklaaTN0
namespace Go.Proofs.Ytmkncbddjnaklaa
open Go.RowKit
open Nat renaming reduceEqDiff → nA, reduceLT → nB, reduceLeDiff → nC, reduceAdd → nD, reduceMul → nE, reduceSub → nF, reduceBEq → nG
open Int renaming reduceToNat → iA, reduceLT → iB, reduceLE → iC, reduceEq → iD
open Bool renaming and_eq_true → bA, or_eq_true → bB, or_eq_false_iff → bC, and_eq_false_iff → bD, not_eq_true' → bE, not_eq_false' → bF, not_true → bG, not_false → bH
set_option linter.all false
set_option maxHeartbeats 4000000
attribute [local irreducible] AW Does ACall tE tS tB tZ
def dLTN0 : List En := [(0, false, []), (1, false, []), (2, false, []), (3, false, []), (4, false, []), (5, false, []), (6, false, []), (7, false, []), (8, false, []), (9, false, []), (10, false, [])]
def dATN0 : List (List Nat) := [[], [0], [0, 1], [0, 1, 2], [], [0, 1, 2, 3, 4], [0, 1, 2, 3, 4, 5], [0, 1, 2, 3, 4, 5, 6], [0, 1, 2, 3, 4, 5, 6], [0, 1, 2, 3, 4, 5, 6, 7], [0, 1, 2, 3, 4, 5, 6, 7, 8, 9]]
attribute [push_cast] dLTN0
def dLTN1 : List En := [(0, false, []), (1, false, []), (2, false, []), (3, false, []), (4, false, []), (5, false, []), (6, false, []), (7, false, []), (8, false, []), (9, false, []), (10, false, []), (11, false, []), (12, false, []), (13, false, [])]
def dATN1 : List (List Nat) := [[], [], [1], [1, 2], [], [4], [], [6], [], [4, 5, 6, 7, 8], [4, 5, 6, 7, 8, 9], [1, 2, 3, 4, 5, 6, 7, 8, 9, 10], [0, 1, 2, 3, 4, 5, 6, 7, 8, 9, 10, 11], [0, 1, 2, 3, 4, 5, 6, 7, 8, 9, 10, 11, 12]]
attribute [push_cast] dLTN1

theorem trun_o (o : OpD) (hlO : o.ins.length ≤ maxLen) (hA : o.A ≤ 9223372036854775807) (l : List Rec) (hl : l.length ≤ 1000) (T : List KC) (hT : T.length ≤ 90000) (hri : Rise T) (O : List Rec) (hO : O.length ≤ 1000) (x y : AV) (nb no : Nat) (Q B : Heap) (hQb : Q nb = none) (hQo : Q no = none) (htw : TwoO Q nb no x y T O B) :
    ACall Try.prog 70 [.g (OpD.av o), .p nb 1 0 0, .p no 1 0 0, .l 3 (l.map Rec.av)] B fun q H' => q = .c (.int .i64 (runA o T O l).2.2) ∧ ∃ x' y', TwoO Q nb no x' y' (runA o T O l).1 (runA o T O l).2.1 H' := by
  obtain ⟨R, hR⟩ : ∃ R, R = runA o T O l := ⟨_, rfl⟩
  rw [← hR]
  have hbn := fun q hq => ne_old htw.getb q hq
  have hon := fun q hq => ne_old htw.geto q hq
  obtain ⟨bop, hbop⟩ : ∃ bop : Blk, bop = .r 24 5 1 [OpD.av o] := ⟨_, rfl⟩
  replace hR := Lib.hid hR
  replace htw := Lib.hid htw
  replace hbop := Lib.hid hbop
  have hdo := fun c v => Do_p o c v hlO hA
  have hdl := fun c v => runS1_len o c v
  obtain ⟨ot, ow, oi, oA, oB⟩ := o
  simp only [OpD.av] at hdo hbop
  simp only [OpD.av]
  replace hdo := Lib.hid hdo
  refine ACall_of' Try.func70 rfl (Ent_of Try.func70 (by kernel_rfl) rfl) (by simp [Try.ntmps70]) ?_; simp only [Try.ntmps70, Try.results70]
  repeat' (first
    | refine AW_seq_kn fun K hK => ?_
    | refine AW_block ?_
    | (refine does_call rfl rfl ?_; simp only [push_cast, seval, *]; refine ACall.monoP (Do_p ⟨_, _, _, _, _⟩ ⟨_, _⟩ _ (by assumption) (by assumption) _) ?_; (try simp only [push_cast, seval, *]))
    | ((first
      | refine AW_region_draw (id := 8) E0 (fun f => [].contains f) dLTN0 dATN0 mixed (by kernel_rfl) ?_
      | refine AW_region_draw (id := 18) E0 (fun f => [].contains f) dLTN1 dATN1 mixed (by kernel_rfl) ?_
      | refine AW_region E0 ?_ | refine AW_ret ?_ | refine AW_exit ?_ | refine AW_skip ?_ | unfold retQ); try simp only [push_cast, seval, *])
    | (apply AW_cond; (case hc => (simp only [push_cast, seval]; rfl)); all_goals (intro hc; first | (exfalso; simp only [push_cast, seval, *] at hc; done) | (exact absurd hc (by decide)) | ((try first | rw [Bool.not_true] at hc | rw [Bool.not_false] at hc); first | (with_reducible replace hc := tTT hc); clear hc | (with_reducible replace hc := tFF hc); clear hc | (have hp := hc; try simp only [decide_eq_true_eq, decide_eq_false_iff_not, bA, bB, bC, bD, bE, bF, bG, bH] at hp))))
    | (refine Kn.go hK ?_; clear hK K)
    | refine Kn.go (by assumption) ?_
    | (intro n hn; (try simp only [upd_none2, join_none_iff, ite_none, ne_eq] at hn); (try simp only [push_cast, seval, *]))
    | (intro hc)
    | fail)
  generalize n = n4 at *
  have hnn : B n4 = none := hn
  have hbn1 : ¬ nb = n4 := of_eq_false (hbn n4 hnn).1
  have hon1 : ¬ no = n4 := of_eq_false (hon n4 hnn).1
  obtain ⟨htw1, hQn⟩ := (unhid htw).new hnn (.r 24 5 1 [[.c (.int .i64 ot), .c (.int .i64 ow), .l 1 (oi.map i1), .c (.int .i64 oA), .c (.int .i64 oB)]])
  have hQle : Heap.le Q (upd Q n4 (.r 24 5 1 [[.c (.int .i64 ot), .c (.int .i64 ow), .l 1 (oi.map i1), .c (.int .i64 oA), .c (.int .i64 oB)]])) := le_upd_new hQn
  have hQn1 : upd Q n4 (.r 24 5 1 [[.c (.int .i64 ot), .c (.int .i64 ow), .l 1 (oi.map i1), .c (.int .i64 oA), .c (.int .i64 oB)]]) n4 = some (.r 24 5 1 [[.c (.int .i64 ot), .c (.int .i64 ow), .l 1 (oi.map i1), .c (.int .i64 oA), .c (.int .i64 oB)]]) := upd_same _ _ _
  have hQb1 : upd Q n4 (.r 24 5 1 [[.c (.int .i64 ot), .c (.int .i64 ow), .l 1 (oi.map i1), .c (.int .i64 oA), .c (.int .i64 oB)]]) nb = none := by rw [upd_ne hbn1]; exact hQb
  have hQo1 : upd Q n4 (.r 24 5 1 [[.c (.int .i64 ot), .c (.int .i64 ow), .l 1 (oi.map i1), .c (.int .i64 oA), .c (.int .i64 oB)]]) no = none := by rw [upd_ne hon1]; exact hQo
  generalize upd Q n4 (.r 24 5 1 [[.c (.int .i64 ot), .c (.int .i64 ow), .l 1 (oi.map i1), .c (.int .i64 oA), .c (.int .i64 oB)]]) = Qn at *
  generalize upd B n4 (.r 24 5 1 [[.c (.int .i64 ot), .c (.int .i64 ow), .l 1 (oi.map i1), .c (.int .i64 oA), .c (.int .i64 oB)]]) = Bn at *
  clear hn hbn hon hnn htw
  refine AW_loopX (σ := List KC × List Rec × AV × AV × Heap) l.length (fun k w => TwoO Qn nb no w.2.2.1 w.2.2.2.1 w.1 w.2.1 w.2.2.2.2 ∧ Rise w.1 ∧ w.1.length ≤ T.length + k ∧ w.2.1.length ≤ O.length + k ∧ R = runA ⟨ot, ow, oi, oA, oB⟩ w.1 w.2.1 (l.drop k)) (fun k w => [(1, .p nb 1 0 0), (2, .p no 1 0 0), (4, .p n4 5 0 0), (20, .l 3 (l.map Rec.av)), (21, ci l.length), (22, ci k)]) (fun _ w => w.2.2.2.2) (T, O, x, y, Bn) ⟨htw1, hri, by simp, by simp, by rw [List.drop_zero]; exact unhid hR⟩ ?_ ?_ ?_ ?_
  · (first | trivial | (simp only [push_cast, seval, *]; done))
  · exact Heap.le_refl _
  · rintro k ⟨T1, O1, x1, y1, B1⟩ hk ⟨htw, hr1, hTl, hOl, hRR⟩
    simp only at htw hr1 hTl hOl hRR
    have hr := List.getElem?_eq_getElem (l := l) hk; generalize l[k] = r at hr; have hrm := List.mem_of_getElem? hr; have hkl : (k : Int) < l.length := (by omega); have hkw : IntKind.i64.wrap ((k : Int) + 1) = (k : Int) + 1 := wrap_i64 (by omega) (by omega)
    have htr : List.take 3 (Rec.av r) = Rec.av r := rfl
    rw [drop_get hr] at hRR
    simp only [runA] at hRR
    have kb := htw.getb
    have ko := htw.geto
    have kn := htw.get hQo1 hQn1
    have hcx := htw.csx
    have hcy := htw.csy
    have hnb := ne_old kb
    have hno := ne_old ko
    have hnn := ne_old kn
    have hck := check_p r.s r.k r.v
    have hfi : Heap.le Q Qn := hQle
    cases hrk : recOk r
    · rw [if_pos hrk] at hRR
      subst hRR
      have hrk2 : recOk ⟨r.s, r.k, r.v⟩ = false := hrk
      rw [hrk2] at hck
      simp only [Bool.false_eq_true, if_false] at hck
      obtain ⟨B2, l1, l2⟩ := htw.cut hQle
      obtain ⟨rs, rk, rv⟩ := r
      clear hrk hrk2 hR htw hri hr1 htw1
      replace l1 := Lib.hid l1
      replace l2 := Lib.hid l2
      repeat' (first
    | refine AW_seq_kn fun K hK => ?_
    | refine AW_block ?_
    | (refine does_call rfl rfl ?_; simp only [push_cast, seval, *]; refine ACall.monoP (hck _) ?_; (try simp only [push_cast, seval, *]))
    | (refine does_call rfl rfl ?_; simp only [push_cast, seval, *]; refine ACall.monoP (Do_p ⟨_, _, _, _, _⟩ ⟨_, _⟩ _ (by assumption) (by assumption) _) ?_; (try simp only [push_cast, seval, *]))
    | ((first
      | refine AW_region_draw (id := 8) E0 (fun f => [].contains f) dLTN0 dATN0 mixed (by kernel_rfl) ?_
      | refine AW_region_draw (id := 18) E0 (fun f => [].contains f) dLTN1 dATN1 mixed (by kernel_rfl) ?_
      | refine AW_region E0 ?_ | refine AW_ret ?_ | refine AW_exit ?_ | refine AW_skip ?_ | unfold retQ); try simp only [push_cast, seval, *])
    | (apply AW_cond; (case hc => (simp only [push_cast, seval]; rfl)); all_goals (intro hc; first | (exfalso; simp only [push_cast, seval, *] at hc; done) | (exact absurd hc (by decide)) | ((try first | rw [Bool.not_true] at hc | rw [Bool.not_false] at hc); first | (with_reducible replace hc := tTT hc); clear hc | (with_reducible replace hc := tFF hc); clear hc | (have hp := hc; try simp only [decide_eq_true_eq, decide_eq_false_iff_not, bA, bB, bC, bD, bE, bF, bG, bH] at hp))))
    | (refine Kn.go hK ?_; clear hK K)
    | refine Kn.go (by assumption) ?_
    | (intro n hn; (try simp only [upd_none2, join_none_iff, ite_none, ne_eq] at hn); (try simp only [push_cast, seval, *]))
    | (intro hc)
    | fail)
      have hBl : Heap.le B1 (upd B1 n (.r 54 3 1 [[.c (.int .i64 rs), .c (.int .i64 rk), .c (.int .i64 rv)]])) := le_upd_new hn
      exact ⟨_, B2, Weak.less (Heap.le_trans (unhid l1) hBl), rfl, x1, y1, unhid l2⟩
    rw [if_neg (by rw [hrk]; decide)] at hRR
    have hrk2 : recOk ⟨r.s, r.k, r.v⟩ = true := hrk
    rw [hrk2] at hck
    simp only [if_true] at hck
    have hat := fun M (x2 y2 : AV) Q2 (h : TwoO Q2 nb no x2 y2 T1 O1 M) => h.at (by omega) hr1 r
    have hset := fun M (x2 y2 : AV) Q2 c (h : TwoO Q2 nb no x2 y2 T1 O1 M) => h.set (by omega) hr1 r c
    have hdl1 := hdl (getS T1 r) r.v
    have hdo1 := unhid hdo (getS T1 r) r.v
    have hgA := getA_getS r T1 hr1
    have hsr := fun c => setS_rise hr1 r c
    have hsl := fun c => setS_len T1 r c
    have hrow := htw.row
    generalize getS T1 r = C at *
    generalize runS _ C [r.v] = D at *
    obtain ⟨⟨n1, t1⟩, vals, e⟩ := D
    obtain ⟨c1, c2⟩ := C
    simp only [CellD.av] at hdo1 hdl1 hRR
    have hatI := atI_le T1 r
    have hsm := fun h => atB_some (l := T1) (r := r) h
    unfold getA at hgA
    generalize atI T1 r = i at *
    have htwT := htw
    replace hat := Lib.hid hat
    replace hset := Lib.hid hset
    replace hdo1 := Lib.hid hdo1
    replace hrow := Lib.hid hrow
    replace htw := Lib.hid htw
    replace hRR := Lib.hid hRR
    clear hrk hrk2 hri htw1 hR hdo
    cases hb : atB T1 r
    · rw [hb] at hgA hat
      simp only [Bool.false_eq_true, if_false] at hgA
      obtain ⟨rfl, rfl⟩ : c1 = 0 ∧ c2 = 0 := by injection hgA with a b; exact ⟨a.symm, b.symm⟩
      obtain ⟨rs, rk, rv⟩ := r
      clear hgA hsm hrow hb htwT
      simp only [Rec.av] at hat hset
      repeat' (first
    | refine AW_seq_kn fun K hK => ?_
    | refine AW_block ?_
    | (refine does_call rfl rfl ?_; simp only [push_cast, seval, *]; refine ACall.monoP (hck _) ?_; (try simp only [push_cast, seval, *]))
    | (refine does_call rfl rfl ?_; simp only [push_cast, seval, *]; refine ACall.monoP (Do_p ⟨_, _, _, _, _⟩ ⟨_, _⟩ _ (by assumption) (by assumption) _) ?_; (try simp only [push_cast, seval, *]))
    | ((first
      | refine AW_region_draw (id := 8) E0 (fun f => [].contains f) dLTN0 dATN0 mixed (by kernel_rfl) ?_
      | refine AW_region_draw (id := 18) E0 (fun f => [].contains f) dLTN1 dATN1 mixed (by kernel_rfl) ?_
      | refine AW_region E0 ?_ | refine AW_ret ?_ | refine AW_exit ?_ | refine AW_skip ?_ | unfold retQ); try simp only [push_cast, seval, *])
    | (apply AW_cond; (case hc => (simp only [push_cast, seval]; rfl)); all_goals (intro hc; first | (exfalso; simp only [push_cast, seval, *] at hc; done) | (exact absurd hc (by decide)) | ((try first | rw [Bool.not_true] at hc | rw [Bool.not_false] at hc); first | (with_reducible replace hc := tTT hc); clear hc | (with_reducible replace hc := tFF hc); clear hc | (have hp := hc; try simp only [decide_eq_true_eq, decide_eq_false_iff_not, bA, bB, bC, bD, bE, bF, bG, bH] at hp))))
    | (refine Kn.go hK ?_; clear hK K)
    | refine Kn.go (by assumption) ?_
    | (intro n hn; (try simp only [upd_none2, join_none_iff, ite_none, ne_eq] at hn); (try simp only [push_cast, seval, *]))
    | (intro hc)
    | fail)
      rename_i m10 h10 K9 hK9
      generalize n = m12 at *
      obtain ⟨w1, hQ1⟩ := (unhid htw).new h10 (.r 54 3 1 [[.c (.int .i64 rs), .c (.int .i64 rk), .c (.int .i64 rv)]])
      obtain ⟨w2, hQ2⟩ := w1.new (m := m12) (by simp only [upd_none2]; exact hn) (.r 26 2 1 [[.c (.int .i64 0), .c (.int .i64 0)]])
      refine does_call rfl rfl ?_
      simp only [push_cast, seval, *]
      refine ACall.mono (unhid hat _ _ _ _ w2) ?_
      rintro _ _ ⟨rfl, e2⟩
      have e3 := e2.symm; clear e2; subst e3
      clear hQ2 hat
      obtain ⟨M, hM⟩ : ∃ M : Heap, M = upd (upd B1 m10 (.r 54 3 1 [[.c (.int .i64 rs), .c (.int .i64 rk), .c (.int .i64 rv)]])) m12 (.r 26 2 1 [[.c (.int .i64 0), .c (.int .i64 0)]]) := ⟨_, rfl⟩
      obtain ⟨Q2, hQ2⟩ : ∃ Q2 : Heap, Q2 = upd (upd Qn m10 (.r 54 3 1 [[.c (.int .i64 rs), .c (.int .i64 rk), .c (.int .i64 rv)]])) m12 (.r 26 2 1 [[.c (.int .i64 0), .c (.int .i64 0)]]) := ⟨_, rfl⟩
      have e1012 : ¬ m10 = m12 := hn.1.2
      have e410 : ¬ n4 = m10 := of_eq_false (hnn m10 h10).1
      have e412 : ¬ n4 = m12 := of_eq_false (hnn m12 hn.2).1
      have eb10 : ¬ nb = m10 := of_eq_false (hnb m10 h10).1
      have eb12 : ¬ nb = m12 := of_eq_false (hnb m12 hn.2).1
      have eo10 : ¬ no = m10 := of_eq_false (hno m10 h10).1
      have eo12 : ¬ no = m12 := of_eq_false (hno m12 hn.2).1
      have q4 : Q2 n4 = Qn n4 := by rw [hQ2, upd_ne e412, upd_ne e410]
      have qb : Q2 nb = none := by rw [hQ2, upd_ne eb12, upd_ne eb10]; exact hQb1
      have qo : Q2 no = none := by rw [hQ2, upd_ne eo12, upd_ne eo10]; exact hQo1
      have q10 : Q2 m10 = some (.r 54 3 1 [[.c (.int .i64 rs), .c (.int .i64 rk), .c (.int .i64 rv)]]) := by rw [hQ2, upd_ne e1012]; exact upd_same _ _ _
      have q12 : Q2 m12 = some (.r 26 2 1 [[.c (.int .i64 0), .c (.int .i64 0)]]) := by rw [hQ2]; exact upd_same _ _ _
      have q12n : Qn m12 = none := ((unhid htw).new hn.2 (.r 26 2 1 [[.c (.int .i64 0), .c (.int .i64 0)]])).2
      have hle2 : Heap.le Qn Q2 := fun q z hq => by
        have c1 : ¬ q = m10 := by rintro rfl; rw [hQ1] at hq; cases hq
        have c2 : ¬ q = m12 := by rintro rfl; rw [q12n] at hq; cases hq
        rw [hQ2, upd_ne c2, upd_ne c1]; exact hq
      rw [← hQ2, ← hM] at w2
      rw [← hM]
      rw [hQn1] at q4
      clear hM hQ2 w1 hQ1 h10 hn kb ko kn hnb hno hnn htw e1012 e410 e412 eb10 eb12 eo10 eo12 q12n
      have kb := w2.getb
      have ko := w2.geto
      have kn := w2.get qo q4
      have k10 := w2.get qo q10
      have k12 := w2.get qo q12
      have hnb := ne_old kb
      have hno := ne_old ko
      have hnn := ne_old kn
      have hn10 := ne_old k10
      have hn12 := ne_old k12
      have hle3 := Heap.le_trans hQle hle2
      by_cases he : e = 0
      · subst he
        rw [if_neg (by simp)] at hRR
        replace w2 := Lib.hid w2
        (try simp only [push_cast, seval, *])
        repeat' (first
    | refine AW_seq_kn fun K hK => ?_
    | refine AW_block ?_
    | (refine does_call rfl rfl ?_; simp only [push_cast, seval, *]; refine ACall.monoP (unhid hdo1 _) ?_; (try simp only [push_cast, seval, *]))
    | (refine does_call rfl rfl ?_; simp only [push_cast, seval, *]; refine ACall.monoP (Do_p ⟨_, _, _, _, _⟩ ⟨_, _⟩ _ (by assumption) (by assumption) _) ?_; (try simp only [push_cast, seval, *]))
    | ((first
      | refine AW_region_draw (id := 8) E0 (fun f => [].contains f) dLTN0 dATN0 mixed (by kernel_rfl) ?_
      | refine AW_region_draw (id := 18) E0 (fun f => [].contains f) dLTN1 dATN1 mixed (by kernel_rfl) ?_
      | refine AW_region E0 ?_ | refine AW_ret ?_ | refine AW_exit ?_ | refine AW_skip ?_ | unfold retQ); try simp only [push_cast, seval, *])
    | (apply AW_cond; (case hc => (simp only [push_cast, seval]; rfl)); all_goals (intro hc; first | (exfalso; simp only [push_cast, seval, *] at hc; done) | (exact absurd hc (by decide)) | ((try first | rw [Bool.not_true] at hc | rw [Bool.not_false] at hc); first | (with_reducible replace hc := tTT hc); clear hc | (with_reducible replace hc := tFF hc); clear hc | (have hp := hc; try simp only [decide_eq_true_eq, decide_eq_false_iff_not, bA, bB, bC, bD, bE, bF, bG, bH] at hp))))
    | (refine Kn.go hK ?_; clear hK K)
    | refine Kn.go (by assumption) ?_
    | (intro n hn; (try simp only [upd_none2, join_none_iff, ite_none, ne_eq] at hn); (try simp only [push_cast, seval, *]))
    | (intro hc)
    | fail)
        generalize n = m15 at *
        obtain ⟨w3, hQm15⟩ := (unhid w2).new hn (.r 26 2 1 [[.c (.int .i64 n1), .c (.int .i64 t1)]])
        have hle4 := Heap.le_trans hle3 (le_upd_new (k := .r 26 2 1 [[.c (.int .i64 n1), .c (.int .i64 t1)]]) hQm15)
        have c415 : ¬ n4 = m15 := of_eq_false (hnn m15 hn).1
        have c1015 : ¬ m10 = m15 := of_eq_false (hn10 m15 hn).1
        have cb15 : ¬ nb = m15 := of_eq_false (hnb m15 hn).1
        have co15 : ¬ no = m15 := of_eq_false (hno m15 hn).1
        obtain ⟨Q3, hQ3⟩ : ∃ Q3 : Heap, Q3 = upd Q2 m15 (.r 26 2 1 [[.c (.int .i64 n1), .c (.int .i64 t1)]]) := ⟨_, rfl⟩
        have p4 : Q3 n4 = some (.r 24 5 1 [[.c (.int .i64 ot), .c (.int .i64 ow), .l 1 (oi.map i1), .c (.int .i64 oA), .c (.int .i64 oB)]]) := by rw [hQ3, upd_ne c415]; exact q4
        have p10 : Q3 m10 = some (.r 54 3 1 [[.c (.int .i64 rs), .c (.int .i64 rk), .c (.int .i64 rv)]]) := by rw [hQ3, upd_ne c1015]; exact q10
        have pb : Q3 nb = none := by rw [hQ3, upd_ne cb15]; exact qb
        have po : Q3 no = none := by rw [hQ3, upd_ne co15]; exact qo
        refine does_call rfl rfl ?_
        simp only [push_cast, seval, *]
        refine ACall.mono (unhid hset _ _ _ _ ⟨n1, t1⟩ w3) ?_
        rintro _ H2 ⟨x2, w4⟩
        rw [← hQ3] at w4 hle4
        have hle4' : Heap.le Qn Q3 := by rw [hQ3]; exact Heap.le_trans hle2 (le_upd_new hQm15)
        clear w3 hQ3 hset w2 kb ko kn k10 k12 hnb hno hnn hn10 hn12 q4 q10 q12 qb qo hdo1 hn hle3 hle2
        have hr2 := hsr ⟨n1, t1⟩
        have hl2 := hsl ⟨n1, t1⟩
        generalize setS T1 ⟨rs, rk, rv⟩ ⟨n1, t1⟩ = T2 at *
        have hcy := w4.csy
        have kb := w4.getb
        have ko := w4.geto
        have kn := w4.get po p4
        have k10 := w4.get po p10
        clear hsr hsl
        replace w4 := Lib.hid w4
        (try simp only [push_cast, seval, *])
        repeat' (first
    | refine AW_seq_kn fun K hK => ?_
    | refine AW_block ?_
    | (refine does_call rfl rfl ?_; simp only [push_cast, seval, *]; refine ACall.monoP (Do_p ⟨_, _, _, _, _⟩ ⟨_, _⟩ _ (by assumption) (by assumption) _) ?_; (try simp only [push_cast, seval, *]))
    | ((first
      | refine AW_region_draw (id := 8) E0 (fun f => [].contains f) dLTN0 dATN0 mixed (by kernel_rfl) ?_
      | refine AW_region_draw (id := 18) E0 (fun f => [].contains f) dLTN1 dATN1 mixed (by kernel_rfl) ?_
      | refine AW_region E0 ?_ | refine AW_ret ?_ | refine AW_exit ?_ | refine AW_skip ?_ | unfold retQ); try simp only [push_cast, seval, *])
    | (apply AW_cond; (case hc => (simp only [push_cast, seval]; rfl)); all_goals (intro hc; first | (exfalso; simp only [push_cast, seval, *] at hc; done) | (exact absurd hc (by decide)) | ((try first | rw [Bool.not_true] at hc | rw [Bool.not_false] at hc); first | (with_reducible replace hc := tTT hc); clear hc | (with_reducible replace hc := tFF hc); clear hc | (have hp := hc; try simp only [decide_eq_true_eq, decide_eq_false_iff_not, bA, bB, bC, bD, bE, bF, bG, bH] at hp))))
    | (refine Kn.go hK ?_; clear hK K)
    | refine Kn.go (by assumption) ?_
    | (intro n hn; (try simp only [upd_none2, join_none_iff, ite_none, ne_eq] at hn); (try simp only [push_cast, seval, *]))
    | (intro hc)
    | fail)
        clear kb ko kn k10 hcy
        refine AW_loopX (σ := List Rec × AV × Heap) vals.length (fun j w => TwoO Q3 nb no x2 w.2.1 T2 w.1 w.2.2 ∧ w.1 = O1 ++ (vals.take j).map (recV ⟨rs, rk, rv⟩)) (fun j w => [(1, .p nb 1 0 0), (2, .p no 1 0 0), (4, .p n4 5 0 0), (10, .p m10 3 0 0), (20, .l 3 (l.map Rec.av)), (21, ci l.length), (22, ci k), (65, .l 1 (vals.map i1)), (66, ci vals.length), (67, ci j)]) (fun _ w => w.2.2) (O1, y1, H2) ⟨unhid w4, by simp⟩ ?_ ?_ ?_ ?_
        · (first | trivial | (simp only [push_cast, seval, *]; done))
        · exact Heap.le_refl _
        · rintro j ⟨O2, y2, B2⟩ hj ⟨w5, hO2⟩
          simp only at w5 hO2
          clear w4
          have hv := List.getElem?_eq_getElem (l := vals) hj; generalize vals[j] = v at hv; have hvm := List.mem_of_getElem? hv; have hjl : (j : Int) < vals.length := (by omega); have hjw : IntKind.i64.wrap ((j : Int) + 1) = (j : Int) + 1 := wrap_i64 (by omega) (by omega)
          have hi1 : i1 v = [.c (.int .i64 v)] := rfl
          have hOl2 : O2.length ≤ 3000 := by
            rw [hO2]; simp only [List.length_append, List.length_map, List.length_take]; omega
          have hO3 : O2 ++ [recV ⟨rs, rk, rv⟩ v] = O1 ++ (vals.take (j + 1)).map (recV ⟨rs, rk, rv⟩) := by
            rw [hO2, take_snoc_map _ hv, List.append_assoc]
          have ko := w5.geto
          have k10 := w5.get po p10
          have hcy := w5.csy
          obtain ⟨M0, o1, mo, mb, hback⟩ := w5.out pb
          clear w5 hO2
          replace o1 := Lib.hid o1
          replace hback := Lib.hid hback
          replace hO3 := Lib.hid hO3
          repeat' (first
    | refine AW_seq_kn fun K hK => ?_
    | refine AW_block ?_
    | (refine does_call rfl rfl ?_; simp only [push_cast, seval, *]; refine ACall.monoP (Do_p ⟨_, _, _, _, _⟩ ⟨_, _⟩ _ (by assumption) (by assumption) _) ?_; (try simp only [push_cast, seval, *]))
    | ((first
      | refine AW_region_draw (id := 8) E0 (fun f => [].contains f) dLTN0 dATN0 mixed (by kernel_rfl) ?_
      | refine AW_region_draw (id := 18) E0 (fun f => [].contains f) dLTN1 dATN1 mixed (by kernel_rfl) ?_
      | refine AW_region E0 ?_ | refine AW_ret ?_ | refine AW_exit ?_ | refine AW_skip ?_ | unfold retQ); try simp only [push_cast, seval, *])
    | (apply AW_cond; (case hc => (simp only [push_cast, seval]; rfl)); all_goals (intro hc; first | (exfalso; simp only [push_cast, seval, *] at hc; done) | (exact absurd hc (by decide)) | ((try first | rw [Bool.not_true] at hc | rw [Bool.not_false] at hc); first | (with_reducible replace hc := tTT hc); clear hc | (with_reducible replace hc := tFF hc); clear hc | (have hp := hc; try simp only [decide_eq_true_eq, decide_eq_false_iff_not, bA, bB, bC, bD, bE, bF, bG, bH] at hp))))
    | (refine Kn.go hK ?_; clear hK K)
    | refine Kn.go (by assumption) ?_
    | (intro n hn; (try simp only [upd_none2, join_none_iff, ite_none, ne_eq] at hn); (try simp only [push_cast, seval, *]))
    | (intro hc)
    | fail)
          have hn2 := hn
          refine does_app1 rfl rfl rfl rfl (unhid o1) hn tE50 tS54 tB54 tZ54 rfl (by decide) ?_ ?_ ?_
          · simp only [List.length_map, maxLen]; omega
          · simp only [List.length_map]; omega
          intro y' H' hown'
          have w6 := unhid hback H' y' (O2 ++ [recV ⟨rs, rk, rv⟩ v]) (by rw [List.map_append]; exact hown')
          have ko2 := hown'.get mo
          have hcy2 := hown'.cs
          clear hown' o1 hback ko k10 hcy hn2
          replace w6 := Lib.hid w6
          (try simp only [push_cast, seval, *])
          repeat' (first
    | refine AW_seq_kn fun K hK => ?_
    | refine AW_block ?_
    | (refine does_call rfl rfl ?_; simp only [push_cast, seval, *]; refine ACall.monoP (Do_p ⟨_, _, _, _, _⟩ ⟨_, _⟩ _ (by assumption) (by assumption) _) ?_; (try simp only [push_cast, seval, *]))
    | ((first
      | refine AW_region_draw (id := 8) E0 (fun f => [].contains f) dLTN0 dATN0 mixed (by kernel_rfl) ?_
      | refine AW_region_draw (id := 18) E0 (fun f => [].contains f) dLTN1 dATN1 mixed (by kernel_rfl) ?_
      | refine AW_region E0 ?_ | refine AW_ret ?_ | refine AW_exit ?_ | refine AW_skip ?_ | unfold retQ); try simp only [push_cast, seval, *])
    | (apply AW_cond; (case hc => (simp only [push_cast, seval]; rfl)); all_goals (intro hc; first | (exfalso; simp only [push_cast, seval, *] at hc; done) | (exact absurd hc (by decide)) | ((try first | rw [Bool.not_true] at hc | rw [Bool.not_false] at hc); first | (with_reducible replace hc := tTT hc); clear hc | (with_reducible replace hc := tFF hc); clear hc | (have hp := hc; try simp only [decide_eq_true_eq, decide_eq_false_iff_not, bA, bB, bC, bD, bE, bF, bG, bH] at hp))))
    | (refine Kn.go hK ?_; clear hK K)
    | refine Kn.go (by assumption) ?_
    | (intro n hn; (try simp only [upd_none2, join_none_iff, ite_none, ne_eq] at hn); (try simp only [push_cast, seval, *]))
    | (intro hc)
    | fail)
          exact ⟨(O2 ++ [recV ⟨rs, rk, rv⟩ v], y', _), ⟨unhid w6, unhid hO3⟩, by (first | trivial | (simp only [push_cast, seval, *]; done)), Heap.le_refl _⟩
        · rintro ⟨O2, y2, B2⟩ ⟨w5, hO2⟩
          simp only at w5 hO2
          rw [List.take_length] at hO2
          rw [← hO2] at hRR
          have hl3 : O2.length ≤ O.length + (k + 1) := by
            rw [hO2]; simp only [List.length_append, List.length_map]; omega
          have hl4 : T2.length ≤ T.length + (k + 1) := by omega
          have hleQ : Heap.le Qn Q3 := hle4'
          obtain ⟨B3, l1, l2⟩ := w5.cut hleQ
          clear w5 w4 hO2
          replace l1 := Lib.hid l1
          replace l2 := Lib.hid l2
          replace hr2 := Lib.hid hr2
          replace hl3 := Lib.hid hl3
          replace hl4 := Lib.hid hl4
          repeat' (first
    | refine AW_seq_kn fun K hK => ?_
    | refine AW_block ?_
    | (refine does_call rfl rfl ?_; simp only [push_cast, seval, *]; refine ACall.monoP (Do_p ⟨_, _, _, _, _⟩ ⟨_, _⟩ _ (by assumption) (by assumption) _) ?_; (try simp only [push_cast, seval, *]))
    | ((first
      | refine AW_region_draw (id := 8) E0 (fun f => [].contains f) dLTN0 dATN0 mixed (by kernel_rfl) ?_
      | refine AW_region_draw (id := 18) E0 (fun f => [].contains f) dLTN1 dATN1 mixed (by kernel_rfl) ?_
      | refine AW_region E0 ?_ | refine AW_ret ?_ | refine AW_exit ?_ | refine AW_skip ?_ | unfold retQ); try simp only [push_cast, seval, *])
    | (apply AW_cond; (case hc => (simp only [push_cast, seval]; rfl)); all_goals (intro hc; first | (exfalso; simp only [push_cast, seval, *] at hc; done) | (exact absurd hc (by decide)) | ((try first | rw [Bool.not_true] at hc | rw [Bool.not_false] at hc); first | (with_reducible replace hc := tTT hc); clear hc | (with_reducible replace hc := tFF hc); clear hc | (have hp := hc; try simp only [decide_eq_true_eq, decide_eq_false_iff_not, bA, bB, bC, bD, bE, bF, bG, bH] at hp))))
    | (refine Kn.go hK ?_; clear hK K)
    | refine Kn.go (by assumption) ?_
    | (intro n hn; (try simp only [upd_none2, join_none_iff, ite_none, ne_eq] at hn); (try simp only [push_cast, seval, *]))
    | (intro hc)
    | fail)
          exact ⟨(T2, O2, x2, y2, B3), ⟨unhid l2, unhid hr2, unhid hl4, unhid hl3, unhid hRR⟩, by (first | trivial | (simp only [push_cast, seval, *]; done)), unhid l1⟩
      · have heF : (e = 0) = False := by simp [he]
        have hR3 := unhid hRR
        rw [if_pos he] at hR3
        subst hR3
        clear he
        obtain ⟨B2, l1, l2⟩ := w2.cut hle3
        clear w2 hset hRR
        replace l1 := Lib.hid l1
        replace l2 := Lib.hid l2
        (try simp only [push_cast, seval, *])
        repeat' (first
    | refine AW_seq_kn fun K hK => ?_
    | refine AW_block ?_
    | (refine does_call rfl rfl ?_; simp only [push_cast, seval, *]; refine ACall.monoP (unhid hdo1 _) ?_; (try simp only [push_cast, seval, *]))
    | (refine does_call rfl rfl ?_; simp only [push_cast, seval, *]; refine ACall.monoP (Do_p ⟨_, _, _, _, _⟩ ⟨_, _⟩ _ (by assumption) (by assumption) _) ?_; (try simp only [push_cast, seval, *]))
    | ((first
      | refine AW_region_draw (id := 8) E0 (fun f => [].contains f) dLTN0 dATN0 mixed (by kernel_rfl) ?_
      | refine AW_region_draw (id := 18) E0 (fun f => [].contains f) dLTN1 dATN1 mixed (by kernel_rfl) ?_
      | refine AW_region E0 ?_ | refine AW_ret ?_ | refine AW_exit ?_ | refine AW_skip ?_ | unfold retQ); try simp only [push_cast, seval, *])
    | (apply AW_cond; (case hc => (simp only [push_cast, seval]; rfl)); all_goals (intro hc; first | (exfalso; simp only [push_cast, seval, *] at hc; done) | (exact absurd hc (by decide)) | ((try first | rw [Bool.not_true] at hc | rw [Bool.not_false] at hc); first | (with_reducible replace hc := tTT hc); clear hc | (with_reducible replace hc := tFF hc); clear hc | (have hp := hc; try simp only [decide_eq_true_eq, decide_eq_false_iff_not, bA, bB, bC, bD, bE, bF, bG, bH] at hp))))
    | (refine Kn.go hK ?_; clear hK K)
    | refine Kn.go (by assumption) ?_
    | (intro n hn; (try simp only [upd_none2, join_none_iff, ite_none, ne_eq] at hn); (try simp only [push_cast, seval, *]))
    | (intro hc)
    | fail)
        have hBl : ∀ b, Heap.le M (upd M n b) := fun b => le_upd_new hn
        exact ⟨_, B2, Weak.less (Heap.le_trans (unhid l1) (hBl _)), rfl, x1, y1, unhid l2⟩
    · rw [hb] at hgA hat
      obtain ⟨z, hz, -⟩ := hsm hb
      rw [hz] at hgA
      simp only [if_true] at hgA
      have hil : i < T1.length := (List.getElem?_eq_some_iff.1 hz).1
      have hilI : (i : Int) < T1.length := by omega
      have hne : T1 ≠ [] := by rintro rfl; simp at hil
      obtain ⟨zs, zk, zn, zt⟩ := z
      obtain ⟨rfl, rfl⟩ : c1 = zn ∧ c2 = zt := by unfold cellK at hgA; injection hgA with a b; exact ⟨a.symm, b.symm⟩
      obtain ⟨rs, rk, rv⟩ := r
      clear hgA hsm hrow hb htwT
      simp only [Rec.av] at hat hset
      repeat' (first
    | refine AW_seq_kn fun K hK => ?_
    | refine AW_block ?_
    | (refine does_call rfl rfl ?_; simp only [push_cast, seval, *]; refine ACall.monoP (hck _) ?_; (try simp only [push_cast, seval, *]))
    | (refine does_call rfl rfl ?_; simp only [push_cast, seval, *]; refine ACall.monoP (Do_p ⟨_, _, _, _, _⟩ ⟨_, _⟩ _ (by assumption) (by assumption) _) ?_; (try simp only [push_cast, seval, *]))
    | ((first
      | refine AW_region_draw (id := 8) E0 (fun f => [].contains f) dLTN0 dATN0 mixed (by kernel_rfl) ?_
      | refine AW_region_draw (id := 18) E0 (fun f => [].contains f) dLTN1 dATN1 mixed (by kernel_rfl) ?_
      | refine AW_region E0 ?_ | refine AW_ret ?_ | refine AW_exit ?_ | refine AW_skip ?_ | unfold retQ); try simp only [push_cast, seval, *])
    | (apply AW_cond; (case hc => (simp only [push_cast, seval]; rfl)); all_goals (intro hc; first | (exfalso; simp only [push_cast, seval, *] at hc; done) | (exact absurd hc (by decide)) | ((try first | rw [Bool.not_true] at hc | rw [Bool.not_false] at hc); first | (with_reducible replace hc := tTT hc); clear hc | (with_reducible replace hc := tFF hc); clear hc | (have hp := hc; try simp only [decide_eq_true_eq, decide_eq_false_iff_not, bA, bB, bC, bD, bE, bF, bG, bH] at hp))))
    | (refine Kn.go hK ?_; clear hK K)
    | refine Kn.go (by assumption) ?_
    | (intro n hn; (try simp only [upd_none2, join_none_iff, ite_none, ne_eq] at hn); (try simp only [push_cast, seval, *]))
    | (intro hc)
    | fail)
      rename_i m10 h10 K9 hK9
      generalize n = m12 at *
      obtain ⟨w1, hQ1⟩ := (unhid htw).new h10 (.r 54 3 1 [[.c (.int .i64 rs), .c (.int .i64 rk), .c (.int .i64 rv)]])
      obtain ⟨w2, hQ2⟩ := w1.new (m := m12) (by simp only [upd_none2]; exact hn) (.r 26 2 1 [[.c (.int .i64 0), .c (.int .i64 0)]])
      refine does_call rfl rfl ?_
      simp only [push_cast, seval, *]
      refine ACall.mono (unhid hat _ _ _ _ w2) ?_
      rintro _ _ ⟨rfl, e2⟩
      have e3 := e2.symm; clear e2; subst e3
      clear hQ2 hat
      obtain ⟨M, hM⟩ : ∃ M : Heap, M = upd (upd B1 m10 (.r 54 3 1 [[.c (.int .i64 rs), .c (.int .i64 rk), .c (.int .i64 rv)]])) m12 (.r 26 2 1 [[.c (.int .i64 0), .c (.int .i64 0)]]) := ⟨_, rfl⟩
      obtain ⟨Q2, hQ2⟩ : ∃ Q2 : Heap, Q2 = upd (upd Qn m10 (.r 54 3 1 [[.c (.int .i64 rs), .c (.int .i64 rk), .c (.int .i64 rv)]])) m12 (.r 26 2 1 [[.c (.int .i64 0), .c (.int .i64 0)]]) := ⟨_, rfl⟩
      have e1012 : ¬ m10 = m12 := hn.1.2
      have e410 : ¬ n4 = m10 := of_eq_false (hnn m10 h10).1
      have e412 : ¬ n4 = m12 := of_eq_false (hnn m12 hn.2).1
      have eb10 : ¬ nb = m10 := of_eq_false (hnb m10 h10).1
      have eb12 : ¬ nb = m12 := of_eq_false (hnb m12 hn.2).1
      have eo10 : ¬ no = m10 := of_eq_false (hno m10 h10).1
      have eo12 : ¬ no = m12 := of_eq_false (hno m12 hn.2).1
      have q4 : Q2 n4 = Qn n4 := by rw [hQ2, upd_ne e412, upd_ne e410]
      have qb : Q2 nb = none := by rw [hQ2, upd_ne eb12, upd_ne eb10]; exact hQb1
      have qo : Q2 no = none := by rw [hQ2, upd_ne eo12, upd_ne eo10]; exact hQo1
      have q10 : Q2 m10 = some (.r 54 3 1 [[.c (.int .i64 rs), .c (.int .i64 rk), .c (.int .i64 rv)]]) := by rw [hQ2, upd_ne e1012]; exact upd_same _ _ _
      have q12 : Q2 m12 = some (.r 26 2 1 [[.c (.int .i64 0), .c (.int .i64 0)]]) := by rw [hQ2]; exact upd_same _ _ _
      have q12n : Qn m12 = none := ((unhid htw).new hn.2 (.r 26 2 1 [[.c (.int .i64 0), .c (.int .i64 0)]])).2
      have hle2 : Heap.le Qn Q2 := fun q z hq => by
        have c1 : ¬ q = m10 := by rintro rfl; rw [hQ1] at hq; cases hq
        have c2 : ¬ q = m12 := by rintro rfl; rw [q12n] at hq; cases hq
        rw [hQ2, upd_ne c2, upd_ne c1]; exact hq
      rw [← hQ2, ← hM] at w2
      rw [← hM]
      rw [hQn1] at q4
      clear hM hQ2 w1 hQ1 h10 hn kb ko kn hnb hno hnn htw e1012 e410 e412 eb10 eb12 eo10 eo12
      have kb := w2.getb
      have ko := w2.geto
      have kn := w2.get qo q4
      have k10 := w2.get qo q10
      have k12 := w2.get qo q12
      obtain ⟨mr, cap, rfl, kr⟩ := w2.row hne
      have hcl : (0 : Int) ≤ (i : Int) := by omega
      have e1012 : ¬ m12 = m10 := by rintro rfl; rw [q12] at q10; injection q10 with q10; injection q10 with a; revert a; decide
      have e412 : ¬ m12 = n4 := by rintro rfl; rw [q12] at q4; injection q4 with q4; injection q4 with a; revert a; decide
      have eb12 : ¬ m12 = nb := by rintro rfl; rw [qb] at q12; cases q12
      have eo12 : ¬ m12 = no := by rintro rfl; rw [qo] at q12; cases q12
      have e1012s : ¬ m10 = m12 := fun e => e1012 e.symm
      have e412s : ¬ n4 = m12 := fun e => e412 e.symm
      have eb12s : ¬ nb = m12 := fun e => eb12 e.symm
      have eo12s : ¬ no = m12 := fun e => eo12 e.symm
      clear hlO hA
      replace w2 := Lib.hid w2
      (try simp only [push_cast, seval, *])
      repeat' (first
    | refine AW_seq_kn fun K hK => ?_
    | refine AW_block ?_
    | (refine does_call rfl rfl ?_; simp only [push_cast, seval, *]; refine ACall.monoP (Do_p ⟨_, _, _, _, _⟩ ⟨_, _⟩ _ (by assumption) (by assumption) _) ?_; (try simp only [push_cast, seval, *]))
    | ((first
      | refine AW_region_draw (id := 8) E0 (fun f => [].contains f) dLTN0 dATN0 mixed (by kernel_rfl) ?_
      | refine AW_region_draw (id := 18) E0 (fun f => [].contains f) dLTN1 dATN1 mixed (by kernel_rfl) ?_
      | refine AW_region E0 ?_ | refine AW_ret ?_ | refine AW_exit ?_ | refine AW_skip ?_ | unfold retQ); try simp only [push_cast, seval, *])
    | (apply AW_cond; (case hc => (simp only [push_cast, seval]; rfl)); all_goals (intro hc; first | (exfalso; simp only [push_cast, seval, *] at hc; done) | (exact absurd hc (by decide)) | ((try first | rw [Bool.not_true] at hc | rw [Bool.not_false] at hc); first | (with_reducible replace hc := tTT hc); clear hc | (with_reducible replace hc := tFF hc); clear hc | (have hp := hc; try simp only [decide_eq_true_eq, decide_eq_false_iff_not, bA, bB, bC, bD, bE, bF, bG, bH] at hp))))
    | (refine Kn.go hK ?_; clear hK K)
    | refine Kn.go (by assumption) ?_
    | (intro n hn; (try simp only [upd_none2, join_none_iff, ite_none, ne_eq] at hn); (try simp only [push_cast, seval, *]))
    | (intro hc)
    | fail)
      have w2' := (unhid w2).turn qo q12 (.r 26 2 1 [[.c (.int .i64 c1), .c (.int .i64 c2)]])
      obtain ⟨M', hM'⟩ : ∃ M' : Heap, M' = upd M m12 (.r 26 2 1 [[.c (.int .i64 c1), .c (.int .i64 c2)]]) := ⟨_, rfl⟩
      obtain ⟨Q2', hQ2'⟩ : ∃ Q2' : Heap, Q2' = upd Q2 m12 (.r 26 2 1 [[.c (.int .i64 c1), .c (.int .i64 c2)]]) := ⟨_, rfl⟩
      rw [← hM'] at w2' ⊢
      rw [← hQ2'] at w2'
      rw [← upd_ne (H := Q2) (k := .r 26 2 1 [[.c (.int .i64 c1), .c (.int .i64 c2)]]) (Ne.symm e412), ← hQ2'] at q4
      rw [← upd_ne (H := Q2) (k := .r 26 2 1 [[.c (.int .i64 c1), .c (.int .i64 c2)]]) (Ne.symm e1012), ← hQ2'] at q10
      rw [← upd_ne (H := Q2) (k := .r 26 2 1 [[.c (.int .i64 c1), .c (.int .i64 c2)]]) (Ne.symm eb12), ← hQ2'] at qb
      rw [← upd_ne (H := Q2) (k := .r 26 2 1 [[.c (.int .i64 c1), .c (.int .i64 c2)]]) (Ne.symm eo12), ← hQ2'] at qo
      have q12' : Q2' m12 = some (.r 26 2 1 [[.c (.int .i64 c1), .c (.int .i64 c2)]]) := by rw [hQ2']; exact upd_same _ _ _
      have hle2' : Heap.le Qn Q2' := fun q z hq => by
        have cq : ¬ q = m12 := by rintro rfl; rw [q12n] at hq; cases hq
        rw [hQ2', upd_ne cq]; exact hle2 q z hq
      clear hQ2' hM' w2 q12 hle2 kb ko kn k10 k12 kr e1012 e412 eb12 eo12 e1012s e412s eb12s eo12s
      clear q12n
      have w2 := w2'
      have hle2 := hle2'
      have q12 := q12'
      clear w2' hle2' q12' M Q2
      generalize M' = M at *
      generalize Q2' = Q2 at *
      have kb := w2.getb
      have ko := w2.geto
      have kn := w2.get qo q4
      have k10 := w2.get qo q10
      have k12 := w2.get qo q12
      have hnb := ne_old kb
      have hno := ne_old ko
      have hnn := ne_old kn
      have hn10 := ne_old k10
      have hn12 := ne_old k12
      have hle3 := Heap.le_trans hQle hle2
      by_cases he : e = 0
      · subst he
        rw [if_neg (by simp)] at hRR
        replace w2 := Lib.hid w2
        (try simp only [push_cast, seval, *])
        repeat' (first
    | refine AW_seq_kn fun K hK => ?_
    | refine AW_block ?_
    | (refine does_call rfl rfl ?_; simp only [push_cast, seval, *]; refine ACall.monoP (unhid hdo1 _) ?_; (try simp only [push_cast, seval, *]))
    | (refine does_call rfl rfl ?_; simp only [push_cast, seval, *]; refine ACall.monoP (Do_p ⟨_, _, _, _, _⟩ ⟨_, _⟩ _ (by assumption) (by assumption) _) ?_; (try simp only [push_cast, seval, *]))
    | ((first
      | refine AW_region_draw (id := 8) E0 (fun f => [].contains f) dLTN0 dATN0 mixed (by kernel_rfl) ?_
      | refine AW_region_draw (id := 18) E0 (fun f => [].contains f) dLTN1 dATN1 mixed (by kernel_rfl) ?_
      | refine AW_region E0 ?_ | refine AW_ret ?_ | refine AW_exit ?_ | refine AW_skip ?_ | unfold retQ); try simp only [push_cast, seval, *])
    | (apply AW_cond; (case hc => (simp only [push_cast, seval]; rfl)); all_goals (intro hc; first | (exfalso; simp only [push_cast, seval, *] at hc; done) | (exact absurd hc (by decide)) | ((try first | rw [Bool.not_true] at hc | rw [Bool.not_false] at hc); first | (with_reducible replace hc := tTT hc); clear hc | (with_reducible replace hc := tFF hc); clear hc | (have hp := hc; try simp only [decide_eq_true_eq, decide_eq_false_iff_not, bA, bB, bC, bD, bE, bF, bG, bH] at hp))))
    | (refine Kn.go hK ?_; clear hK K)
    | refine Kn.go (by assumption) ?_
    | (intro n hn; (try simp only [upd_none2, join_none_iff, ite_none, ne_eq] at hn); (try simp only [push_cast, seval, *]))
    | (intro hc)
    | fail)
        generalize n = m15 at *
        obtain ⟨w3, hQm15⟩ := (unhid w2).new hn (.r 26 2 1 [[.c (.int .i64 n1), .c (.int .i64 t1)]])
        have hle4 := Heap.le_trans hle3 (le_upd_new (k := .r 26 2 1 [[.c (.int .i64 n1), .c (.int .i64 t1)]]) hQm15)
        have c415 : ¬ n4 = m15 := of_eq_false (hnn m15 hn).1
        have c1015 : ¬ m10 = m15 := of_eq_false (hn10 m15 hn).1
        have cb15 : ¬ nb = m15 := of_eq_false (hnb m15 hn).1
        have co15 : ¬ no = m15 := of_eq_false (hno m15 hn).1
        obtain ⟨Q3, hQ3⟩ : ∃ Q3 : Heap, Q3 = upd Q2 m15 (.r 26 2 1 [[.c (.int .i64 n1), .c (.int .i64 t1)]]) := ⟨_, rfl⟩
        have p4 : Q3 n4 = some (.r 24 5 1 [[.c (.int .i64 ot), .c (.int .i64 ow), .l 1 (oi.map i1), .c (.int .i64 oA), .c (.int .i64 oB)]]) := by rw [hQ3, upd_ne c415]; exact q4
        have p10 : Q3 m10 = some (.r 54 3 1 [[.c (.int .i64 rs), .c (.int .i64 rk), .c (.int .i64 rv)]]) := by rw [hQ3, upd_ne c1015]; exact q10
        have pb : Q3 nb = none := by rw [hQ3, upd_ne cb15]; exact qb
        have po : Q3 no = none := by rw [hQ3, upd_ne co15]; exact qo
        refine does_call rfl rfl ?_
        simp only [push_cast, seval, *]
        refine ACall.mono (unhid hset _ _ _ _ ⟨n1, t1⟩ w3) ?_
        rintro _ H2 ⟨x2, w4⟩
        rw [← hQ3] at w4 hle4
        have hle4' : Heap.le Qn Q3 := by rw [hQ3]; exact Heap.le_trans hle2 (le_upd_new hQm15)
        clear w3 hQ3 hset w2 kb ko kn k10 k12 hnb hno hnn hn10 hn12 q4 q10 q12 qb qo hdo1 hn hle3 hle2
        have hr2 := hsr ⟨n1, t1⟩
        have hl2 := hsl ⟨n1, t1⟩
        generalize setS T1 ⟨rs, rk, rv⟩ ⟨n1, t1⟩ = T2 at *
        have hcy := w4.csy
        have kb := w4.getb
        have ko := w4.geto
        have kn := w4.get po p4
        have k10 := w4.get po p10
        clear hsr hsl
        replace w4 := Lib.hid w4
        (try simp only [push_cast, seval, *])
        repeat' (first
    | refine AW_seq_kn fun K hK => ?_
    | refine AW_block ?_
    | (refine does_call rfl rfl ?_; simp only [push_cast, seval, *]; refine ACall.monoP (Do_p ⟨_, _, _, _, _⟩ ⟨_, _⟩ _ (by assumption) (by assumption) _) ?_; (try simp only [push_cast, seval, *]))
    | ((first
      | refine AW_region_draw (id := 8) E0 (fun f => [].contains f) dLTN0 dATN0 mixed (by kernel_rfl) ?_
      | refine AW_region_draw (id := 18) E0 (fun f => [].contains f) dLTN1 dATN1 mixed (by kernel_rfl) ?_
      | refine AW_region E0 ?_ | refine AW_ret ?_ | refine AW_exit ?_ | refine AW_skip ?_ | unfold retQ); try simp only [push_cast, seval, *])
    | (apply AW_cond; (case hc => (simp only [push_cast, seval]; rfl)); all_goals (intro hc; first | (exfalso; simp only [push_cast, seval, *] at hc; done) | (exact absurd hc (by decide)) | ((try first | rw [Bool.not_true] at hc | rw [Bool.not_false] at hc); first | (with_reducible replace hc := tTT hc); clear hc | (with_reducible replace hc := tFF hc); clear hc | (have hp := hc; try simp only [decide_eq_true_eq, decide_eq_false_iff_not, bA, bB, bC, bD, bE, bF, bG, bH] at hp))))
    | (refine Kn.go hK ?_; clear hK K)
    | refine Kn.go (by assumption) ?_
    | (intro n hn; (try simp only [upd_none2, join_none_iff, ite_none, ne_eq] at hn); (try simp only [push_cast, seval, *]))
    | (intro hc)
    | fail)
        clear kb ko kn k10 hcy
        refine AW_loopX (σ := List Rec × AV × Heap) vals.length (fun j w => TwoO Q3 nb no x2 w.2.1 T2 w.1 w.2.2 ∧ w.1 = O1 ++ (vals.take j).map (recV ⟨rs, rk, rv⟩)) (fun j w => [(1, .p nb 1 0 0), (2, .p no 1 0 0), (4, .p n4 5 0 0), (10, .p m10 3 0 0), (20, .l 3 (l.map Rec.av)), (21, ci l.length), (22, ci k), (65, .l 1 (vals.map i1)), (66, ci vals.length), (67, ci j)]) (fun _ w => w.2.2) (O1, y1, H2) ⟨unhid w4, by simp⟩ ?_ ?_ ?_ ?_
        · (first | trivial | (simp only [push_cast, seval, *]; done))
        · exact Heap.le_refl _
        · rintro j ⟨O2, y2, B2⟩ hj ⟨w5, hO2⟩
          simp only at w5 hO2
          clear w4
          have hv := List.getElem?_eq_getElem (l := vals) hj; generalize vals[j] = v at hv; have hvm := List.mem_of_getElem? hv; have hjl : (j : Int) < vals.length := (by omega); have hjw : IntKind.i64.wrap ((j : Int) + 1) = (j : Int) + 1 := wrap_i64 (by omega) (by omega)
          have hi1 : i1 v = [.c (.int .i64 v)] := rfl
          have hOl2 : O2.length ≤ 3000 := by
            rw [hO2]; simp only [List.length_append, List.length_map, List.length_take]; omega
          have hO3 : O2 ++ [recV ⟨rs, rk, rv⟩ v] = O1 ++ (vals.take (j + 1)).map (recV ⟨rs, rk, rv⟩) := by
            rw [hO2, take_snoc_map _ hv, List.append_assoc]
          have ko := w5.geto
          have k10 := w5.get po p10
          have hcy := w5.csy
          obtain ⟨M0, o1, mo, mb, hback⟩ := w5.out pb
          clear w5 hO2
          replace o1 := Lib.hid o1
          replace hback := Lib.hid hback
          replace hO3 := Lib.hid hO3
          repeat' (first
    | refine AW_seq_kn fun K hK => ?_
    | refine AW_block ?_
    | (refine does_call rfl rfl ?_; simp only [push_cast, seval, *]; refine ACall.monoP (Do_p ⟨_, _, _, _, _⟩ ⟨_, _⟩ _ (by assumption) (by assumption) _) ?_; (try simp only [push_cast, seval, *]))
    | ((first
      | refine AW_region_draw (id := 8) E0 (fun f => [].contains f) dLTN0 dATN0 mixed (by kernel_rfl) ?_
      | refine AW_region_draw (id := 18) E0 (fun f => [].contains f) dLTN1 dATN1 mixed (by kernel_rfl) ?_
      | refine AW_region E0 ?_ | refine AW_ret ?_ | refine AW_exit ?_ | refine AW_skip ?_ | unfold retQ); try simp only [push_cast, seval, *])
    | (apply AW_cond; (case hc => (simp only [push_cast, seval]; rfl)); all_goals (intro hc; first | (exfalso; simp only [push_cast, seval, *] at hc; done) | (exact absurd hc (by decide)) | ((try first | rw [Bool.not_true] at hc | rw [Bool.not_false] at hc); first | (with_reducible replace hc := tTT hc); clear hc | (with_reducible replace hc := tFF hc); clear hc | (have hp := hc; try simp only [decide_eq_true_eq, decide_eq_false_iff_not, bA, bB, bC, bD, bE, bF, bG, bH] at hp))))
    | (refine Kn.go hK ?_; clear hK K)
    | refine Kn.go (by assumption) ?_
    | (intro n hn; (try simp only [upd_none2, join_none_iff, ite_none, ne_eq] at hn); (try simp only [push_cast, seval, *]))
    | (intro hc)
    | fail)
          have hn2 := hn
          refine does_app1 rfl rfl rfl rfl (unhid o1) hn tE50 tS54 tB54 tZ54 rfl (by decide) ?_ ?_ ?_
          · simp only [List.length_map, maxLen]; omega
          · simp only [List.length_map]; omega
          intro y' H' hown'
          have w6 := unhid hback H' y' (O2 ++ [recV ⟨rs, rk, rv⟩ v]) (by rw [List.map_append]; exact hown')
          have ko2 := hown'.get mo
          have hcy2 := hown'.cs
          clear hown' o1 hback ko k10 hcy hn2
          replace w6 := Lib.hid w6
          (try simp only [push_cast, seval, *])
          repeat' (first
    | refine AW_seq_kn fun K hK => ?_
    | refine AW_block ?_
    | (refine does_call rfl rfl ?_; simp only [push_cast, seval, *]; refine ACall.monoP (Do_p ⟨_, _, _, _, _⟩ ⟨_, _⟩ _ (by assumption) (by assumption) _) ?_; (try simp only [push_cast, seval, *]))
    | ((first
      | refine AW_region_draw (id := 8) E0 (fun f => [].contains f) dLTN0 dATN0 mixed (by kernel_rfl) ?_
      | refine AW_region_draw (id := 18) E0 (fun f => [].contains f) dLTN1 dATN1 mixed (by kernel_rfl) ?_
      | refine AW_region E0 ?_ | refine AW_ret ?_ | refine AW_exit ?_ | refine AW_skip ?_ | unfold retQ); try simp only [push_cast, seval, *])
    | (apply AW_cond; (case hc => (simp only [push_cast, seval]; rfl)); all_goals (intro hc; first | (exfalso; simp only [push_cast, seval, *] at hc; done) | (exact absurd hc (by decide)) | ((try first | rw [Bool.not_true] at hc | rw [Bool.not_false] at hc); first | (with_reducible replace hc := tTT hc); clear hc | (with_reducible replace hc := tFF hc); clear hc | (have hp := hc; try simp only [decide_eq_true_eq, decide_eq_false_iff_not, bA, bB, bC, bD, bE, bF, bG, bH] at hp))))
    | (refine Kn.go hK ?_; clear hK K)
    | refine Kn.go (by assumption) ?_
    | (intro n hn; (try simp only [upd_none2, join_none_iff, ite_none, ne_eq] at hn); (try simp only [push_cast, seval, *]))
    | (intro hc)
    | fail)
          exact ⟨(O2 ++ [recV ⟨rs, rk, rv⟩ v], y', _), ⟨unhid w6, unhid hO3⟩, by (first | trivial | (simp only [push_cast, seval, *]; done)), Heap.le_refl _⟩
        · rintro ⟨O2, y2, B2⟩ ⟨w5, hO2⟩
          simp only at w5 hO2
          rw [List.take_length] at hO2
          rw [← hO2] at hRR
          have hl3 : O2.length ≤ O.length + (k + 1) := by
            rw [hO2]; simp only [List.length_append, List.length_map]; omega
          have hl4 : T2.length ≤ T.length + (k + 1) := by omega
          have hleQ : Heap.le Qn Q3 := hle4'
          obtain ⟨B3, l1, l2⟩ := w5.cut hleQ
          clear w5 w4 hO2
          replace l1 := Lib.hid l1
          replace l2 := Lib.hid l2
          replace hr2 := Lib.hid hr2
          replace hl3 := Lib.hid hl3
          replace hl4 := Lib.hid hl4
          repeat' (first
    | refine AW_seq_kn fun K hK => ?_
    | refine AW_block ?_
    | (refine does_call rfl rfl ?_; simp only [push_cast, seval, *]; refine ACall.monoP (Do_p ⟨_, _, _, _, _⟩ ⟨_, _⟩ _ (by assumption) (by assumption) _) ?_; (try simp only [push_cast, seval, *]))
    | ((first
      | refine AW_region_draw (id := 8) E0 (fun f => [].contains f) dLTN0 dATN0 mixed (by kernel_rfl) ?_
      | refine AW_region_draw (id := 18) E0 (fun f => [].contains f) dLTN1 dATN1 mixed (by kernel_rfl) ?_
      | refine AW_region E0 ?_ | refine AW_ret ?_ | refine AW_exit ?_ | refine AW_skip ?_ | unfold retQ); try simp only [push_cast, seval, *])
    | (apply AW_cond; (case hc => (simp only [push_cast, seval]; rfl)); all_goals (intro hc; first | (exfalso; simp only [push_cast, seval, *] at hc; done) | (exact absurd hc (by decide)) | ((try first | rw [Bool.not_true] at hc | rw [Bool.not_false] at hc); first | (with_reducible replace hc := tTT hc); clear hc | (with_reducible replace hc := tFF hc); clear hc | (have hp := hc; try simp only [decide_eq_true_eq, decide_eq_false_iff_not, bA, bB, bC, bD, bE, bF, bG, bH] at hp))))
    | (refine Kn.go hK ?_; clear hK K)
    | refine Kn.go (by assumption) ?_
    | (intro n hn; (try simp only [upd_none2, join_none_iff, ite_none, ne_eq] at hn); (try simp only [push_cast, seval, *]))
    | (intro hc)
    | fail)
          exact ⟨(T2, O2, x2, y2, B3), ⟨unhid l2, unhid hr2, unhid hl4, unhid hl3, unhid hRR⟩, by (first | trivial | (simp only [push_cast, seval, *]; done)), unhid l1⟩
      · have heF : (e = 0) = False := by simp [he]
        have hR3 := unhid hRR
        rw [if_pos he] at hR3
        subst hR3
        clear he
        obtain ⟨B2, l1, l2⟩ := w2.cut hle3
        clear w2 hset hRR
        replace l1 := Lib.hid l1
        replace l2 := Lib.hid l2
        (try simp only [push_cast, seval, *])
        repeat' (first
    | refine AW_seq_kn fun K hK => ?_
    | refine AW_block ?_
    | (refine does_call rfl rfl ?_; simp only [push_cast, seval, *]; refine ACall.monoP (unhid hdo1 _) ?_; (try simp only [push_cast, seval, *]))
    | (refine does_call rfl rfl ?_; simp only [push_cast, seval, *]; refine ACall.monoP (Do_p ⟨_, _, _, _, _⟩ ⟨_, _⟩ _ (by assumption) (by assumption) _) ?_; (try simp only [push_cast, seval, *]))
    | ((first
      | refine AW_region_draw (id := 8) E0 (fun f => [].contains f) dLTN0 dATN0 mixed (by kernel_rfl) ?_
      | refine AW_region_draw (id := 18) E0 (fun f => [].contains f) dLTN1 dATN1 mixed (by kernel_rfl) ?_
      | refine AW_region E0 ?_ | refine AW_ret ?_ | refine AW_exit ?_ | refine AW_skip ?_ | unfold retQ); try simp only [push_cast, seval, *])
    | (apply AW_cond; (case hc => (simp only [push_cast, seval]; rfl)); all_goals (intro hc; first | (exfalso; simp only [push_cast, seval, *] at hc; done) | (exact absurd hc (by decide)) | ((try first | rw [Bool.not_true] at hc | rw [Bool.not_false] at hc); first | (with_reducible replace hc := tTT hc); clear hc | (with_reducible replace hc := tFF hc); clear hc | (have hp := hc; try simp only [decide_eq_true_eq, decide_eq_false_iff_not, bA, bB, bC, bD, bE, bF, bG, bH] at hp))))
    | (refine Kn.go hK ?_; clear hK K)
    | refine Kn.go (by assumption) ?_
    | (intro n hn; (try simp only [upd_none2, join_none_iff, ite_none, ne_eq] at hn); (try simp only [push_cast, seval, *]))
    | (intro hc)
    | fail)
        have hBl : ∀ b, Heap.le M (upd M n b) := fun b => le_upd_new hn
        exact ⟨_, B2, Weak.less (Heap.le_trans (unhid l1) (hBl _)), rfl, (.s mr 4 0 T1.length cap), y1, unhid l2⟩
  · rintro ⟨T1, O1, x1, y1, B1⟩ ⟨htw, hr1, hTl, hOl, hRR⟩
    simp only at htw hr1 hTl hOl hRR
    rw [List.drop_length] at hRR
    simp only [runA] at hRR
    subst hRR
    obtain ⟨B2, l1, l2⟩ := htw.cut hQle
    clear htw hR htw1 hri hr1
    replace l1 := Lib.hid l1
    replace l2 := Lib.hid l2
    repeat' (first
    | refine AW_seq_kn fun K hK => ?_
    | refine AW_block ?_
    | (refine does_call rfl rfl ?_; simp only [push_cast, seval, *]; refine ACall.monoP (Do_p ⟨_, _, _, _, _⟩ ⟨_, _⟩ _ (by assumption) (by assumption) _) ?_; (try simp only [push_cast, seval, *]))
    | ((first
      | refine AW_region_draw (id := 8) E0 (fun f => [].contains f) dLTN0 dATN0 mixed (by kernel_rfl) ?_
      | refine AW_region_draw (id := 18) E0 (fun f => [].contains f) dLTN1 dATN1 mixed (by kernel_rfl) ?_
      | refine AW_region E0 ?_ | refine AW_ret ?_ | refine AW_exit ?_ | refine AW_skip ?_ | unfold retQ); try simp only [push_cast, seval, *])
    | (apply AW_cond; (case hc => (simp only [push_cast, seval]; rfl)); all_goals (intro hc; first | (exfalso; simp only [push_cast, seval, *] at hc; done) | (exact absurd hc (by decide)) | ((try first | rw [Bool.not_true] at hc | rw [Bool.not_false] at hc); first | (with_reducible replace hc := tTT hc); clear hc | (with_reducible replace hc := tFF hc); clear hc | (have hp := hc; try simp only [decide_eq_true_eq, decide_eq_false_iff_not, bA, bB, bC, bD, bE, bF, bG, bH] at hp))))
    | (refine Kn.go hK ?_; clear hK K)
    | refine Kn.go (by assumption) ?_
    | (intro n hn; (try simp only [upd_none2, join_none_iff, ite_none, ne_eq] at hn); (try simp only [push_cast, seval, *]))
    | (intro hc)
    | fail)
    exact ⟨_, B2, Weak.less (unhid l1), rfl, x1, y1, unhid l2⟩
end Go.Proofs.Ytmkncbddjnaklaa
