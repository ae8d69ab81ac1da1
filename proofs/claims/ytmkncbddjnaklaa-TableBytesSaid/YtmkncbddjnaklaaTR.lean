/- Walks: table.Do, table.Run. -/
import Derived.Test.YtmkncbddjnaklaaTQ
import Derived.Test.YtmkncbddjnaklaaTP
namespace Go.Proofs.Ytmkncbddjnaklaa
open Go.RowKit
open Nat renaming reduceEqDiff → nA, reduceLT → nB, reduceLeDiff → nC, reduceAdd → nD, reduceMul → nE, reduceSub → nF, reduceBEq → nG
open Int renaming reduceToNat → iA, reduceLT → iB, reduceLE → iC, reduceEq → iD
open Bool renaming and_eq_true → bA, or_eq_true → bB, or_eq_false_iff → bC, and_eq_false_iff → bD, not_eq_true' → bE, not_eq_false' → bF, not_true → bG, not_false → bH
set_option linter.all false
set_option maxHeartbeats 4000000
attribute [local irreducible] AW Does ACall tE tS tB tZ

def RunD (o : OpD) (T : List KC) (l : List Rec) : List KC × List Rec × Int := if tOk T = false then ([], [], 220) else if (RunT o T [] l).2.2 ≠ 0 then ([], [], (RunT o T [] l).2.2) else RunT o T [] l
theorem tRun_o (o : OpD) (hlO : o.ins.length ≤ maxLen) (hA : o.A ≤ 9223372036854775807) (T : List KC) (hT : T.length ≤ 90000) (l : List Rec) (hl : l.length ≤ maxLen) (H : Heap) :
    ACall Try.prog 37 [.g (OpD.av o), .g [.l 4 (T.map KC.av)], .l 3 (l.map Rec.av)] H fun q H' => ∃ y yo, q = .t [.g [y], yo, .c (.int .i64 (RunD o T l).2.2)] ∧ ∃ G, OwnL H' y 80 4 ((RunD o T l).1.map KC.av) G ∧ OwnL G yo 54 3 ((RunD o T l).2.1.map Rec.av) H := by
  have hD : RunD o T l = if tOk T = false then ([], [], 220) else if (RunT o T [] l).2.2 ≠ 0 then ([], [], (RunT o T [] l).2.2) else RunT o T [] l := rfl
  have hno := with_no T (by unfold maxLen; omega)
  have hri : tOk T = true → Rise T := tOk_rise
  have hcl := fun (hr : Rise T) x nb no nop nl Q B a b c d e => run1_a o hlO hA l hl T hT hr [] (by simp) x nilS nb no nop nl Q B a b c d e
  generalize RunD o T l = D at *
  generalize RunT o T [] l = R at *
  obtain ⟨T2, O2, e⟩ := R
  obtain ⟨D1, D2, D3⟩ := D
  obtain ⟨ot, ow, oi, oA, oB⟩ := o
  simp only [OpD.av] at hcl
  simp only [OpD.av] 
  simp only at hD hcl
  replace hno := Lib.hid hno
  replace hcl := Lib.hid hcl
  replace hri := Lib.hid hri
  replace hD := Lib.hid hD
  refine ACall_of' Try.func37 rfl (Ent_of Try.func37 (by kernel_rfl) rfl) (by simp [Try.ntmps37]) ?_; simp only [Try.ntmps37, Try.results37]
  repeat' (first
    | refine AW_seq_kn fun K hK => ?_
    | refine AW_block ?_
    | ((first
      | refine AW_region_draw (id := 5) E0 (fun f => [].contains f) [(0, false, []), (1, true, []), (2, false, [1]), (3, false, []), (4, false, [])] [[], [], [0], [0, 1, 2], [0, 1, 2, 3]] mixed (by kernel_rfl) ?_
      | refine AW_region E0 ?_ | refine AW_ret ?_ | refine AW_exit ?_ | refine AW_skip ?_ | unfold retQ); try simp only [push_cast, seval, *])
    | (apply AW_cond; (case hc => (simp only [push_cast, seval]; rfl)); all_goals (intro hc; first | (exfalso; simp only [push_cast, seval, *] at hc; done) | (exact absurd hc (by decide)) | ((try first | rw [Bool.not_true] at hc | rw [Bool.not_false] at hc); first | (with_reducible replace hc := tTT hc); clear hc | (with_reducible replace hc := tFF hc); clear hc | (have hp := hc; try simp only [decide_eq_true_eq, decide_eq_false_iff_not, bA, bB, bC, bD, bE, bF, bG, bH] at hp))))
    | (refine Kn.go hK ?_; clear hK K)
    | refine Kn.go (by assumption) ?_
    | (intro n hn; (try simp only [upd_none2, join_none_iff, ite_none, ne_eq] at hn); (try simp only [push_cast, seval, *]))
    | (intro hc)
    | fail)
  rename_i n3 h3 n4 h4 n5 h5 n6 h6
  generalize n = n9 at *
  obtain ⟨Hs, hHs⟩ : ∃ Hs : Heap, Hs = upd (upd (upd (upd (upd H n3 (.r 24 5 1 [[.c (.int .i64 ot), .c (.int .i64 ow), .l 1 (oi.map i1), .c (.int .i64 oA), .c (.int .i64 oB)]])) n4 (.r 49 1 1 [[.l 4 (T.map KC.av)]])) n5 (.r 50 1 1 [[.l 3 (l.map Rec.av)]])) n6 (.r 49 1 1 [[.c (.slice none 0 0)]])) n9 (.r 50 1 1 [[.c (.slice none 0 0)]]) := ⟨_, rfl⟩
  have g3 : Hs n3 = some (.r 24 5 1 [[.c (.int .i64 ot), .c (.int .i64 ow), .l 1 (oi.map i1), .c (.int .i64 oA), .c (.int .i64 oB)]]) := by rw [hHs]; simp only [push_cast, seval, *]
  have g5 : Hs n5 = some (.r 50 1 1 [[.l 3 (l.map Rec.av)]]) := by rw [hHs]; simp only [push_cast, seval, *]
  have g6 : Hs n6 = some (.r 49 1 1 [[.c (.slice none 0 0)]]) := by rw [hHs]; simp only [push_cast, seval, *]
  have g9 : Hs n9 = some (bxO nilS) := by rw [hHs]; exact upd_same _ _ _
  have c39 : n3 ≠ n9 := fun e => by simp_all
  have c59 : n5 ≠ n9 := fun e => by simp_all
  have c69 : n6 ≠ n9 := fun e => by simp_all
  have c96 : ¬ n9 = n6 := Ne.symm c69
  have hm6 : H n6 = none := h6.2.2.2
  have hm9 : H n9 = none := hn.2.2.2.2
  have hle : Heap.le H Hs := by rw [hHs]; (repeat' (first | exact Heap.le_refl _ | refine hle_upd2 ?_ _ _ | (refine Heap.le_new ?_ ?_; rotate_left 1; focus (first | assumption | (simp only [upd_none2, upd_get, ne_eq, push_cast, seval, *]; done) | (simp [upd_get, *]; done)))))
  rw [← hHs]
  clear hHs h3 h4 h5 h6 hn
  replace hle := Lib.hid hle
  cases hok : tOk T
  · obtain ⟨rfl, rfl, rfl⟩ : D1 = [] ∧ D2 = [] ∧ D3 = 220 := by
      have h := unhid hD; rw [hok, if_pos rfl] at h; simpa using h
    clear hD hcl hri
    refine does_call rfl rfl ?_
    simp only [push_cast, seval, *]
    refine ACall.mono (unhid hno hok _ _ _) ?_
    rintro _ _ ⟨rfl, e2⟩
    have e3 := e2.symm; clear e2; subst e3
    have hn6 := ne_old g6
    clear hno
    (try simp only [push_cast, seval, *])
    repeat' (first
    | refine AW_seq_kn fun K hK => ?_
    | refine AW_block ?_
    | ((first
      | refine AW_region_draw (id := 5) E0 (fun f => [].contains f) [(0, false, []), (1, true, []), (2, false, [1]), (3, false, []), (4, false, [])] [[], [], [0], [0, 1, 2], [0, 1, 2, 3]] mixed (by kernel_rfl) ?_
      | refine AW_region E0 ?_ | refine AW_ret ?_ | refine AW_exit ?_ | refine AW_skip ?_ | unfold retQ); try simp only [push_cast, seval, *])
    | (apply AW_cond; (case hc => (simp only [push_cast, seval]; rfl)); all_goals (intro hc; first | (exfalso; simp only [push_cast, seval, *] at hc; done) | (exact absurd hc (by decide)) | ((try first | rw [Bool.not_true] at hc | rw [Bool.not_false] at hc); first | (with_reducible replace hc := tTT hc); clear hc | (with_reducible replace hc := tFF hc); clear hc | (have hp := hc; try simp only [decide_eq_true_eq, decide_eq_false_iff_not, bA, bB, bC, bD, bE, bF, bG, bH] at hp))))
    | (refine Kn.go hK ?_; clear hK K)
    | refine Kn.go (by assumption) ?_
    | (intro n hn; (try simp only [upd_none2, join_none_iff, ite_none, ne_eq] at hn); (try simp only [push_cast, seval, *]))
    | (intro hc)
    | fail)
    refine ⟨_, H, Weak.less ?_, _, _, rfl, H, .inl ⟨⟨_, rfl⟩, rfl, rfl⟩, .inl ⟨⟨_, rfl⟩, rfl, rfl⟩⟩
    intro q b hq
    have c6 : ¬ q = n6 := by rintro rfl; rw [hm6] at hq; cases hq
    have hz := unhid hle q b hq
    have c10 : ¬ q = n := by rintro rfl; rw [hn] at hz; cases hz
    first
      | (rw [upd_ne c6, upd_ne c10]; exact hz)
      | (rw [upd_ne c10, upd_ne c6]; exact hz)
  · refine does_call rfl rfl ?_
    simp only [push_cast, seval, *]
    refine ACall.mono (with_two T hT hok 74 [.p n5 1 0 0, .p n3 5 0 0, .p n9 1 0 0] Hs n9 e T2 O2 g9 (fun x nb Q B q1 q2 q3 q4 => unhid hcl (unhid hri hok) x nb n9 n3 n5 Q B q1 q2 (q3 _ _ c39 g3) (q3 _ _ c59 g5) q4)) ?_
    rintro q H' ⟨y, G', rfl, ⟨yo, ho⟩, hpost⟩
    clear hno hcl hri
    have u6 : upd (del Hs n9) n9 (bxO yo) n6 = some (.r 49 1 1 [[.c (.slice none 0 0)]]) := by rw [upd_ne c69, del_ne c69]; exact g6
    have v6 := ho.get u6
    have v9 := ho.get (upd_same (del Hs n9) n9 (bxO yo))
    have hocs := ho.cs
    have hbase : Heap.le H (upd (del Hs n9) n9 (bxO yo)) := fun q b hq => by
      have c9 : ¬ q = n9 := by rintro rfl; rw [hm9] at hq; cases hq
      rw [upd_ne c9, del_ne c9]; exact unhid hle q b hq
    rcases hpost with ⟨rfl, h1⟩ | ⟨he, rfl, rfl⟩
    · obtain ⟨rfl, rfl, rfl⟩ : D1 = T2 ∧ D2 = O2 ∧ D3 = 0 := by
        have h := unhid hD; rw [hok, if_neg (by simp), if_neg (by simp)] at h; simpa using h
      have k6 := h1.get v6
      have k9 := h1.get v9
      have hycs := h1.cs
      have hn6 := ne_old k6
      have hn9 := ne_old k9
      have hfin : ∀ m, H' m = none → ∃ H2, Heap.le H2 (upd (upd H' m (bxT y)) n6 (bxT y)) ∧ ∃ G, OwnL H2 y 80 4 (D1.map KC.av) G ∧ OwnL G yo 54 3 (D2.map Rec.av) H := fun m hm => by
        have hg := h1.none hm
        have hb := ho.none hg
        have e6 : n6 ≠ m := by rintro rfl; rw [k6] at hm; cases hm
        have a1 := (h1.new hm (bxT y)).turn (m := n6) (k0 := .r 49 1 1 [[.c (.slice none 0 0)]]) (by rw [upd_ne e6]; exact v6) (bxT y)
        have a2 := (ho.new hg (bxT y)).turn (m := n6) (k0 := .r 49 1 1 [[.c (.slice none 0 0)]]) (by rw [upd_ne e6]; exact u6) (bxT y)
        obtain ⟨G2, b1, b2⟩ := a2.cut (K := H) (fun q b hq => by
          have c6 : ¬ q = n6 := by rintro rfl; rw [hm6] at hq; cases hq
          have hz := hbase q b hq
          have c10 : ¬ q = m := by rintro rfl; rw [hb] at hz; cases hz
          rw [upd_ne c6, upd_ne c10]; exact hz)
        obtain ⟨H2, b3, b4⟩ := a1.cut b1
        exact ⟨H2, b3, G2, b4, b2⟩
      clear ho h1 hD u6 v6 v9 hbase hle hn6 g3 g5 g6 g9
      replace hfin := Lib.hid hfin
      have hn6 := ne_old k6
      (try simp only [push_cast, seval, *])
      repeat' (first
    | refine AW_seq_kn fun K hK => ?_
    | refine AW_block ?_
    | ((first
      | refine AW_region_draw (id := 5) E0 (fun f => [].contains f) [(0, false, []), (1, true, []), (2, false, [1]), (3, false, []), (4, false, [])] [[], [], [0], [0, 1, 2], [0, 1, 2, 3]] mixed (by kernel_rfl) ?_
      | refine AW_region E0 ?_ | refine AW_ret ?_ | refine AW_exit ?_ | refine AW_skip ?_ | unfold retQ); try simp only [push_cast, seval, *])
    | (apply AW_cond; (case hc => (simp only [push_cast, seval]; rfl)); all_goals (intro hc; first | (exfalso; simp only [push_cast, seval, *] at hc; done) | (exact absurd hc (by decide)) | ((try first | rw [Bool.not_true] at hc | rw [Bool.not_false] at hc); first | (with_reducible replace hc := tTT hc); clear hc | (with_reducible replace hc := tFF hc); clear hc | (have hp := hc; try simp only [decide_eq_true_eq, decide_eq_false_iff_not, bA, bB, bC, bD, bE, bF, bG, bH] at hp))))
    | (refine Kn.go hK ?_; clear hK K)
    | refine Kn.go (by assumption) ?_
    | (intro n hn; (try simp only [upd_none2, join_none_iff, ite_none, ne_eq] at hn); (try simp only [push_cast, seval, *]))
    | (intro hc)
    | fail)
      obtain ⟨H2, b1, G2, b2, b3⟩ := unhid hfin n hn
      exact ⟨_, H2, Weak.less b1, y, yo, rfl, G2, b2, b3⟩
    · obtain ⟨rfl, rfl, rfl⟩ : D1 = [] ∧ D2 = [] ∧ D3 = e := by
        have h := unhid hD; rw [hok, if_neg (by simp), if_pos he] at h; simpa using h
      have heF : (D3 = 0) = False := by simp [he]
      have hfin : ∀ m, H' m = none → ∀ a b, Heap.le H (upd (upd H' m a) n6 b) := fun m hm a b q z hq => by
        have c6 : ¬ q = n6 := by rintro rfl; rw [hm6] at hq; cases hq
        have hz := ho.get (hbase q z hq)
        have c10 : ¬ q = m := by rintro rfl; rw [hm] at hz; cases hz
        rw [upd_ne c6, upd_ne c10]; exact hz
      clear ho hD u6 v9 hbase hle he g3 g5 g6 g9
      replace hfin := Lib.hid hfin
      have hn6 := ne_old v6
      (try simp only [push_cast, seval, *])
      repeat' (first
    | refine AW_seq_kn fun K hK => ?_
    | refine AW_block ?_
    | ((first
      | refine AW_region_draw (id := 5) E0 (fun f => [].contains f) [(0, false, []), (1, true, []), (2, false, [1]), (3, false, []), (4, false, [])] [[], [], [0], [0, 1, 2], [0, 1, 2, 3]] mixed (by kernel_rfl) ?_
      | refine AW_region E0 ?_ | refine AW_ret ?_ | refine AW_exit ?_ | refine AW_skip ?_ | unfold retQ); try simp only [push_cast, seval, *])
    | (apply AW_cond; (case hc => (simp only [push_cast, seval]; rfl)); all_goals (intro hc; first | (exfalso; simp only [push_cast, seval, *] at hc; done) | (exact absurd hc (by decide)) | ((try first | rw [Bool.not_true] at hc | rw [Bool.not_false] at hc); first | (with_reducible replace hc := tTT hc); clear hc | (with_reducible replace hc := tFF hc); clear hc | (have hp := hc; try simp only [decide_eq_true_eq, decide_eq_false_iff_not, bA, bB, bC, bD, bE, bF, bG, bH] at hp))))
    | (refine Kn.go hK ?_; clear hK K)
    | refine Kn.go (by assumption) ?_
    | (intro n hn; (try simp only [upd_none2, join_none_iff, ite_none, ne_eq] at hn); (try simp only [push_cast, seval, *]))
    | (intro hc)
    | fail)
      exact ⟨_, H, Weak.less (unhid hfin n hn _ _), _, _, rfl, H, .inl ⟨⟨_, rfl⟩, rfl, rfl⟩, .inl ⟨⟨_, rfl⟩, rfl, rfl⟩⟩
end Go.Proofs.Ytmkncbddjnaklaa
