/- Walks: a sink writes; it begins; the same sinks; the open transaction's name. -/
import Derived.Test.YtdeckjoeggmagaaSA
namespace Go.Proofs.Ytdeckjoeggmagaa
open Go.RowKit
open Nat renaming reduceEqDiff → nA, reduceLT → nB, reduceLeDiff → nC, reduceAdd → nD, reduceMul → nE, reduceSub → nF, reduceBEq → nG
open Int renaming reduceToNat → iA, reduceLT → iB, reduceLE → iC, reduceEq → iD
open Bool renaming and_eq_true → bA, or_eq_true → bB, or_eq_false_iff → bC, and_eq_false_iff → bD, not_eq_true' → bE, not_eq_false' → bF, not_true → bG, not_false → bH
set_option linter.all false
set_option maxHeartbeats 4000000
attribute [local irreducible] AW Does ACall tE tS tB tZ
def dLSB0 : List En := [(0, true, []), (1, false, []), (2, false, []), (3, false, []), (5, true, []), (4, false, [0, 5, 6]), (6, false, []), (7, false, [0]), (8, false, []), (9, false, []), (10, false, [])]
def dASB0 : List (List Nat) := [[], [], [], [2], [1, 2, 3], [], [], [1, 2, 3, 4, 5, 6], [0, 1, 2, 3, 4, 5, 6, 7], [0, 1, 2, 3, 4, 5, 6, 7, 8], [0, 1, 2, 3, 4, 5, 6, 7, 8, 9]]
attribute [push_cast] dLSB0
set_option maxRecDepth 5000

def zeroSk : Sk := ⟨0, 0, 0, false, []⟩
theorem weak_zs {H : Heap} {a b c d : AV} (xs : List AV) : Weak (.t (.g [a, b, c, d, .c (.slice none 0 0)] :: xs)) H (.t (.g [a, b, c, d, .l 3 []] :: xs)) H :=
  (OwnL.none' (H := H) (ad := none) (sz := 3) (ty := 0)).weak fun F F' hF hi _ => Imp.t (Imps.cons (Imp.g (Imps.cons (Imp.refl hF _) id (Imps.cons (Imp.refl hF _) id (Imps.cons (Imp.refl hF _) id (Imps.cons (Imp.refl hF _) id (Imps.cons (Imp.nil_l 3) (fun _ => rfl) Imps.nil)))))) id (Imps.refl hF xs))
theorem kinds_lent {M : Heap} {m : Nat} {ks : List Int} (h : M m = some (.r 3 1 ks.length (ks.map i1))) : Lent M (.s m 1 0 ks.length ks.length) (.l 1 (ks.map i1)) := by
  have := Lent.s (cap := ks.length) h
  rwa [List.length_map] at this
def writeSk (s : Sk) (r : Rec) : Sk × List Act × Int :=
  if skOk s = false then (zeroSk, [], 270) else if recOk r = false then (zeroSk, [], 150)
  else if s.opn = true then (s, [actS (nameS s s.ser) r 2], 0)
  else if s.ser = 1048576 then (zeroSk, [], 6)
  else ({ s with ser := s.ser + 1, opn := true }, [actS (nameS s (s.ser + 1)) r 1, actS (nameS s (s.ser + 1)) r 2], 0)
theorem skOk_bd {s : Sk} (h : skOk s = true) : (0 ≤ s.sub ∧ s.sub < 16) ∧ (1 ≤ s.att ∧ s.att ≤ 1048576) ∧ (0 ≤ s.ser ∧ s.ser ≤ 1048576) ∧ (s.opn = true → ¬ s.ser = 0) ∧ s.rdy.length ≤ 24 := by
  simp only [skOk, skHead, Bool.and_eq_true, decide_eq_true_eq] at h
  obtain ⟨⟨⟨⟨⟨⟨⟨⟨a1, a2⟩, a3⟩, a4⟩, a5⟩, a6⟩, a7⟩, a8⟩, -⟩ := h
  refine ⟨⟨a1, a2⟩, ⟨a3, a4⟩, ⟨a5, a6⟩, fun h1 h2 => ?_, a8⟩
  rw [h1, h2] at a7
  simp at a7
theorem sWrite_o (s : Sk) (hl : s.rdy.length ≤ maxLen) (r : Rec) (H : Heap) :
    ACall Try.prog 21 [.g (Sk.av s), .g (Rec.av r)] H fun z H' => ∃ y, z = .t [.g (Sk.av (writeSk s r).1), y, .c (.int .i64 (writeSk s r).2.2)] ∧ OwnL H' y 61 7 ((writeSk s r).2.1.map Act.av) H := by
  have hck := sCheck_p s hl
  have hrc := check_p r.s r.k r.v
  unfold writeSk
  cases hok : skOk s
  · rw [hok] at hck
    simp only [Bool.false_eq_true, if_false, if_true] at hck ⊢
    obtain ⟨a, b, c, d, l⟩ := s
    obtain ⟨rs, rk, rv⟩ := r
    simp only [Sk.av, Rec.av, zeroSk, List.map_nil] at hck ⊢
    clear hok hrc
    refine ACall_of' Try.func21 rfl (Ent_of Try.func21 (by kernel_rfl) rfl) (by simp [Try.ntmps21]) ?_; simp only [Try.ntmps21, Try.results21]
    repeat' (first
    | refine AW_seq_kn fun K hK => ?_
    | refine AW_block ?_
    | (refine does_call rfl rfl ?_; simp only [push_cast, seval, *]; refine ACall.monoP (hck _) ?_; (try simp only [push_cast, seval, *]))
    | ((first
      | refine AW_region_draw (id := 8) E0 (fun f => [].contains f) dLSB0 dASB0 mixed (by kernel_rfl) ?_
      | refine AW_region_draw (id := 13) E0 (fun f => [].contains f) dLSB0 dASB0 mixed (by kernel_rfl) ?_
      | refine AW_region E0 ?_ | refine AW_ret ?_ | refine AW_exit ?_ | refine AW_skip ?_ | unfold retQ); try simp only [push_cast, seval, *])
    | (apply AW_cond; (case hc => (simp only [push_cast, seval]; rfl)); all_goals (intro hc; first | (exfalso; simp only [push_cast, seval, *] at hc; done) | (exact absurd hc (by decide)) | ((try first | rw [Bool.not_true] at hc | rw [Bool.not_false] at hc); first | (with_reducible replace hc := tTT hc); clear hc | (with_reducible replace hc := tFF hc); clear hc | (have hp := hc; try simp only [decide_eq_true_eq, decide_eq_false_iff_not, bA, bB, bC, bD, bE, bF, bG, bH] at hp))))
    | (refine Kn.go hK ?_; clear hK K)
    | refine Kn.go (by assumption) ?_
    | (intro n hn; (try simp only [upd_none2, join_none_iff, ite_none, ne_eq] at hn); (try simp only [push_cast, seval, *]))
    | (intro hc)
    | fail)
    exact ⟨_, _, Weak.trans (Weak.less (by (repeat' (first | exact Heap.le_refl _ | refine hle_upd2 ?_ _ _ | (refine Heap.le_new ?_ ?_; rotate_left 1; focus (first | assumption | (simp only [upd_none2, upd_get, ne_eq, push_cast, seval, *]; done) | (simp [upd_get, *]; done))))))) (weak_zs _), _, rfl, OwnL.nil _ _ _⟩
  rw [hok] at hck
  simp only [if_true, Bool.true_eq_false, if_false] at hck ⊢
  obtain ⟨-, -, hbd, -, -⟩ := skOk_bd hok
  cases hrok : recOk r
  · have hrok2 : recOk ⟨r.s, r.k, r.v⟩ = false := hrok
    rw [hrok2] at hrc
    obtain ⟨a, b, c, d, l⟩ := s
    obtain ⟨rs, rk, rv⟩ := r
    simp only [Sk.av, Rec.av, zeroSk, List.map_nil, Bool.false_eq_true, if_false, if_true] at hck hrc ⊢
    clear hok hrok hrok2 hbd
    refine ACall_of' Try.func21 rfl (Ent_of Try.func21 (by kernel_rfl) rfl) (by simp [Try.ntmps21]) ?_; simp only [Try.ntmps21, Try.results21]
    repeat' (first
    | refine AW_seq_kn fun K hK => ?_
    | refine AW_block ?_
    | (refine does_call rfl rfl ?_; simp only [push_cast, seval, *]; refine ACall.monoP (hck _) ?_; (try simp only [push_cast, seval, *]))
    | (refine does_call rfl rfl ?_; simp only [push_cast, seval, *]; refine ACall.monoP (hrc _) ?_; (try simp only [push_cast, seval, *]))
    | ((first
      | refine AW_region_draw (id := 8) E0 (fun f => [].contains f) dLSB0 dASB0 mixed (by kernel_rfl) ?_
      | refine AW_region_draw (id := 13) E0 (fun f => [].contains f) dLSB0 dASB0 mixed (by kernel_rfl) ?_
      | refine AW_region E0 ?_ | refine AW_ret ?_ | refine AW_exit ?_ | refine AW_skip ?_ | unfold retQ); try simp only [push_cast, seval, *])
    | (apply AW_cond; (case hc => (simp only [push_cast, seval]; rfl)); all_goals (intro hc; first | (exfalso; simp only [push_cast, seval, *] at hc; done) | (exact absurd hc (by decide)) | ((try first | rw [Bool.not_true] at hc | rw [Bool.not_false] at hc); first | (with_reducible replace hc := tTT hc); clear hc | (with_reducible replace hc := tFF hc); clear hc | (have hp := hc; try simp only [decide_eq_true_eq, decide_eq_false_iff_not, bA, bB, bC, bD, bE, bF, bG, bH] at hp))))
    | (refine Kn.go hK ?_; clear hK K)
    | refine Kn.go (by assumption) ?_
    | (intro n hn; (try simp only [upd_none2, join_none_iff, ite_none, ne_eq] at hn); (try simp only [push_cast, seval, *]))
    | (intro hc)
    | fail)
    exact ⟨_, _, Weak.trans (Weak.less (by (repeat' (first | exact Heap.le_refl _ | refine hle_upd2 ?_ _ _ | (refine Heap.le_new ?_ ?_; rotate_left 1; focus (first | assumption | (simp only [upd_none2, upd_get, ne_eq, push_cast, seval, *]; done) | (simp [upd_get, *]; done))))))) (weak_zs _), _, rfl, OwnL.nil _ _ _⟩
  have hrok2 : recOk ⟨r.s, r.k, r.v⟩ = true := hrok
  rw [hrok2] at hrc
  have hnm := fun x => name_p s x
  simp only [Bool.true_eq_false, if_false, if_true] at hrc ⊢
  have hnm2 := fun x => name_p { s with ser := s.ser + 1, opn := true } x
  have hac1 : ∀ (M : Heap) (m : Nat), M m = some (.r 3 1 1 [[.c (.int .i64 2)]]) → ACall Try.prog 61 [.g (Nm.av (nameS s s.ser)), .g (Rec.av r), .s m 1 0 1 1] M fun z H' => OwnL H' z 61 7 ([actS (nameS s s.ser) r 2].map Act.av) M := fun M m hm => acts_l (M := M) (nameS s s.ser) r [2] (by simp) (kinds_lent (ks := [2]) (m := m) hm)
  have hac2 : ∀ (M : Heap) (m : Nat), M m = some (.r 3 1 2 [[.c (.int .i64 1)], [.c (.int .i64 2)]]) → ACall Try.prog 61 [.g (Nm.av (nameS s (s.ser + 1))), .g (Rec.av r), .s m 1 0 2 2] M fun z H' => OwnL H' z 61 7 ([actS (nameS s (s.ser + 1)) r 1, actS (nameS s (s.ser + 1)) r 2].map Act.av) M := fun M m hm => acts_l (M := M) (nameS s (s.ser + 1)) r [1, 2] (by simp) (kinds_lent (ks := [1, 2]) (m := m) hm)
  obtain ⟨a, b, c, d, l⟩ := s
  obtain ⟨rs, rk, rv⟩ := r
  simp only at hbd
  simp only [Sk.av, Rec.av, Nm.av, nameS] at hck hrc hnm hnm2 hac1 hac2 ⊢
  clear hok hrok hrok2
  cases d
  · rw [if_neg (by decide)]
    by_cases h6 : c = 1048576
    · rw [if_pos h6]
      subst h6
      simp only [zeroSk, List.map_nil]
      refine ACall_of' Try.func21 rfl (Ent_of Try.func21 (by kernel_rfl) rfl) (by simp [Try.ntmps21]) ?_; simp only [Try.ntmps21, Try.results21]
      repeat' (first
    | refine AW_seq_kn fun K hK => ?_
    | refine AW_block ?_
    | (refine does_call rfl rfl ?_; simp only [push_cast, seval, *]; refine ACall.monoP (hck _) ?_; (try simp only [push_cast, seval, *]))
    | (refine does_call rfl rfl ?_; simp only [push_cast, seval, *]; refine ACall.monoP (hrc _) ?_; (try simp only [push_cast, seval, *]))
    | ((first
      | refine AW_region_draw (id := 8) E0 (fun f => [].contains f) dLSB0 dASB0 mixed (by kernel_rfl) ?_
      | refine AW_region_draw (id := 13) E0 (fun f => [].contains f) dLSB0 dASB0 mixed (by kernel_rfl) ?_
      | refine AW_region E0 ?_ | refine AW_ret ?_ | refine AW_exit ?_ | refine AW_skip ?_ | unfold retQ); try simp only [push_cast, seval, *])
    | (apply AW_cond; (case hc => (simp only [push_cast, seval]; rfl)); all_goals (intro hc; first | (exfalso; simp only [push_cast, seval, *] at hc; done) | (exact absurd hc (by decide)) | ((try first | rw [Bool.not_true] at hc | rw [Bool.not_false] at hc); first | (with_reducible replace hc := tTT hc); clear hc | (with_reducible replace hc := tFF hc); clear hc | (have hp := hc; try simp only [decide_eq_true_eq, decide_eq_false_iff_not, bA, bB, bC, bD, bE, bF, bG, bH] at hp))))
    | (refine Kn.go hK ?_; clear hK K)
    | refine Kn.go (by assumption) ?_
    | (intro n hn; (try simp only [upd_none2, join_none_iff, ite_none, ne_eq] at hn); (try simp only [push_cast, seval, *]))
    | (intro hc)
    | fail)
      exact ⟨_, _, Weak.trans (Weak.less (by (repeat' (first | exact Heap.le_refl _ | refine hle_upd2 ?_ _ _ | (refine Heap.le_new ?_ ?_; rotate_left 1; focus (first | assumption | (simp only [upd_none2, upd_get, ne_eq, push_cast, seval, *]; done) | (simp [upd_get, *]; done))))))) (weak_zs _), _, rfl, OwnL.nil _ _ _⟩
    · rw [if_neg h6]
      obtain ⟨c1, hc1⟩ : ∃ c1, c1 = c + 1 := ⟨_, rfl⟩
      have hw : IntKind.i64.wrap (c + 1) = c1 := by rw [hc1]; exact wrap_i64 (by omega) (by omega)
      rw [← hc1] at hnm2 hac2 ⊢
      replace hc1 := Lib.hid hc1
      generalize hAC : [actS ⟨a, b, c1⟩ ⟨rs, rk, rv⟩ 1, actS ⟨a, b, c1⟩ ⟨rs, rk, rv⟩ 2] = AC at *
      replace hac2 := Lib.hid hac2
      refine ACall_of' Try.func21 rfl (Ent_of Try.func21 (by kernel_rfl) rfl) (by simp [Try.ntmps21]) ?_; simp only [Try.ntmps21, Try.results21]
      repeat' (first
    | refine AW_seq_kn fun K hK => ?_
    | refine AW_block ?_
    | (refine does_call rfl rfl ?_; simp only [push_cast, seval, *]; refine ACall.monoP (hck _) ?_; (try simp only [push_cast, seval, *]))
    | (refine does_call rfl rfl ?_; simp only [push_cast, seval, *]; refine ACall.monoP (hrc _) ?_; (try simp only [push_cast, seval, *]))
    | (refine does_call rfl rfl ?_; simp only [push_cast, seval, *]; refine ACall.monoP (hnm2 _ _) ?_; (try simp only [push_cast, seval, *]))
    | ((first
      | refine AW_region_draw (id := 8) E0 (fun f => [].contains f) dLSB0 dASB0 mixed (by kernel_rfl) ?_
      | refine AW_region_draw (id := 13) E0 (fun f => [].contains f) dLSB0 dASB0 mixed (by kernel_rfl) ?_
      | refine AW_region E0 ?_ | refine AW_ret ?_ | refine AW_exit ?_ | refine AW_skip ?_ | unfold retQ); try simp only [push_cast, seval, *])
    | (apply AW_cond; (case hc => (simp only [push_cast, seval]; rfl)); all_goals (intro hc; first | (exfalso; simp only [push_cast, seval, *] at hc; done) | (exact absurd hc (by decide)) | ((try first | rw [Bool.not_true] at hc | rw [Bool.not_false] at hc); first | (with_reducible replace hc := tTT hc); clear hc | (with_reducible replace hc := tFF hc); clear hc | (have hp := hc; try simp only [decide_eq_true_eq, decide_eq_false_iff_not, bA, bB, bC, bD, bE, bF, bG, bH] at hp))))
    | (refine Kn.go hK ?_; clear hK K)
    | refine Kn.go (by assumption) ?_
    | (intro n hn; (try simp only [upd_none2, join_none_iff, ite_none, ne_eq] at hn); (try simp only [push_cast, seval, *]))
    | (intro hc)
    | fail)
      rename_i n1 h1 n2 h2 n3 h3
      generalize n = m at *
      have gm : H m = none := by first | exact hn.2.2 | exact hn.2.2.2 | exact hn.2.2.2.2 | exact hn.2.2.2.2.2
      refine does_call rfl rfl ?_
      simp only [push_cast, seval, *]
      refine ACall.mono (unhid hac2 _ m (by simp only [push_cast, seval, upd_get, *])) ?_
      intro z H' hz
      have zcs := hz.cs
      have zone := hz.one
      have f1 := hz.get (m := n1) (by simp only [push_cast, seval, upd_get, *]; rfl)
      have f2 := hz.get (m := n2) (by simp only [push_cast, seval, upd_get, *]; rfl)
      have f3 := hz.get (m := n3) (k := .r 34 5 1 [[.c (.int .i64 0), .c (.int .i64 0), .c (.int .i64 0), .c (.bool false), .c (.slice none 0 0)]]) (by simp only [push_cast, seval, upd_get, *])
      obtain ⟨H2, l1, l2, l3⟩ := (Loc.own _ _ _ _).cutx hz (K := H) (by
        intro q c hq
        have c1 : q ≠ n1 := by rintro rfl; rw [h1] at hq; cases hq
        have c2 : q ≠ n2 := by rintro rfl; rw [h2.2] at hq; cases hq
        have c3 : q ≠ n3 := by rintro rfl; rw [h3.2.2] at hq; cases hq
        have c4 : q ≠ m := by rintro rfl; rw [gm] at hq; cases hq
        simp only [upd_get, if_neg c1, if_neg c2, if_neg c3, if_neg c4]; exact hq)
      have l4 := l3 n3 (by simp only [push_cast, seval, upd_get, *]; first | done | simp) h3.2.2
      have o3 := ne_old f3
      clear hz l3
      replace l1 := Lib.hid l1
      replace l2 := Lib.hid l2
      replace l4 := Lib.hid l4
      (try simp only [push_cast, seval, *])
      repeat' (first
    | refine AW_seq_kn fun K hK => ?_
    | refine AW_block ?_
    | ((first
      | refine AW_region_draw (id := 8) E0 (fun f => [].contains f) dLSB0 dASB0 mixed (by kernel_rfl) ?_
      | refine AW_region_draw (id := 13) E0 (fun f => [].contains f) dLSB0 dASB0 mixed (by kernel_rfl) ?_
      | refine AW_region E0 ?_ | refine AW_ret ?_ | refine AW_exit ?_ | refine AW_skip ?_ | unfold retQ); try simp only [push_cast, seval, *])
    | (apply AW_cond; (case hc => (simp only [push_cast, seval]; rfl)); all_goals (intro hc; first | (exfalso; simp only [push_cast, seval, *] at hc; done) | (exact absurd hc (by decide)) | ((try first | rw [Bool.not_true] at hc | rw [Bool.not_false] at hc); first | (with_reducible replace hc := tTT hc); clear hc | (with_reducible replace hc := tFF hc); clear hc | (have hp := hc; try simp only [decide_eq_true_eq, decide_eq_false_iff_not, bA, bB, bC, bD, bE, bF, bG, bH] at hp))))
    | (refine Kn.go hK ?_; clear hK K)
    | refine Kn.go (by assumption) ?_
    | (intro n hn; (try simp only [upd_none2, join_none_iff, ite_none, ne_eq] at hn); (try simp only [push_cast, seval, *]))
    | (intro hc)
    | fail)
      exact ⟨_, H2, Weak.less (by repeat' (first | exact unhid l1 | refine le_skip ?_ (unhid l4))), z, rfl, unhid l2⟩
  · rw [if_pos rfl]
    generalize hAC : [actS ⟨a, b, c⟩ ⟨rs, rk, rv⟩ 2] = AC at *
    replace hac1 := Lib.hid hac1
    refine ACall_of' Try.func21 rfl (Ent_of Try.func21 (by kernel_rfl) rfl) (by simp [Try.ntmps21]) ?_; simp only [Try.ntmps21, Try.results21]
    repeat' (first
    | refine AW_seq_kn fun K hK => ?_
    | refine AW_block ?_
    | (refine does_call rfl rfl ?_; simp only [push_cast, seval, *]; refine ACall.monoP (hck _) ?_; (try simp only [push_cast, seval, *]))
    | (refine does_call rfl rfl ?_; simp only [push_cast, seval, *]; refine ACall.monoP (hrc _) ?_; (try simp only [push_cast, seval, *]))
    | (refine does_call rfl rfl ?_; simp only [push_cast, seval, *]; refine ACall.monoP (hnm _ _) ?_; (try simp only [push_cast, seval, *]))
    | ((first
      | refine AW_region_draw (id := 8) E0 (fun f => [].contains f) dLSB0 dASB0 mixed (by kernel_rfl) ?_
      | refine AW_region_draw (id := 13) E0 (fun f => [].contains f) dLSB0 dASB0 mixed (by kernel_rfl) ?_
      | refine AW_region E0 ?_ | refine AW_ret ?_ | refine AW_exit ?_ | refine AW_skip ?_ | unfold retQ); try simp only [push_cast, seval, *])
    | (apply AW_cond; (case hc => (simp only [push_cast, seval]; rfl)); all_goals (intro hc; first | (exfalso; simp only [push_cast, seval, *] at hc; done) | (exact absurd hc (by decide)) | ((try first | rw [Bool.not_true] at hc | rw [Bool.not_false] at hc); first | (with_reducible replace hc := tTT hc); clear hc | (with_reducible replace hc := tFF hc); clear hc | (have hp := hc; try simp only [decide_eq_true_eq, decide_eq_false_iff_not, bA, bB, bC, bD, bE, bF, bG, bH] at hp))))
    | (refine Kn.go hK ?_; clear hK K)
    | refine Kn.go (by assumption) ?_
    | (intro n hn; (try simp only [upd_none2, join_none_iff, ite_none, ne_eq] at hn); (try simp only [push_cast, seval, *]))
    | (intro hc)
    | fail)
    rename_i n1 h1 n2 h2 n3 h3 K1 hK1
    generalize n = m at *
    have gm : H m = none := by first | exact hn.2.2 | exact hn.2.2.2 | exact hn.2.2.2.2 | exact hn.2.2.2.2.2
    refine does_call rfl rfl ?_
    simp only [push_cast, seval, *]
    refine ACall.mono (unhid hac1 _ m (by simp only [push_cast, seval, upd_get, *])) ?_
    intro z H' hz
    have zcs := hz.cs
    have zone := hz.one
    have f1 := hz.get (m := n1) (by simp only [push_cast, seval, upd_get, *]; rfl)
    have f2 := hz.get (m := n2) (by simp only [push_cast, seval, upd_get, *]; rfl)
    have f3 := hz.get (m := n3) (k := .r 34 5 1 [[.c (.int .i64 0), .c (.int .i64 0), .c (.int .i64 0), .c (.bool false), .c (.slice none 0 0)]]) (by simp only [push_cast, seval, upd_get, *])
    obtain ⟨H2, l1, l2, l3⟩ := (Loc.own _ _ _ _).cutx hz (K := H) (by
      intro q c hq
      have c1 : q ≠ n1 := by rintro rfl; rw [h1] at hq; cases hq
      have c2 : q ≠ n2 := by rintro rfl; rw [h2.2] at hq; cases hq
      have c3 : q ≠ n3 := by rintro rfl; rw [h3.2.2] at hq; cases hq
      have c4 : q ≠ m := by rintro rfl; rw [gm] at hq; cases hq
      simp only [upd_get, if_neg c1, if_neg c2, if_neg c3, if_neg c4]; exact hq)
    have l4 := l3 n3 (by simp only [push_cast, seval, upd_get, *]; first | done | simp) h3.2.2
    have o3 := ne_old f3
    clear hz l3
    replace l1 := Lib.hid l1
    replace l2 := Lib.hid l2
    replace l4 := Lib.hid l4
    (try simp only [push_cast, seval, *])
    repeat' (first
    | refine AW_seq_kn fun K hK => ?_
    | refine AW_block ?_
    | ((first
      | refine AW_region_draw (id := 8) E0 (fun f => [].contains f) dLSB0 dASB0 mixed (by kernel_rfl) ?_
      | refine AW_region_draw (id := 13) E0 (fun f => [].contains f) dLSB0 dASB0 mixed (by kernel_rfl) ?_
      | refine AW_region E0 ?_ | refine AW_ret ?_ | refine AW_exit ?_ | refine AW_skip ?_ | unfold retQ); try simp only [push_cast, seval, *])
    | (apply AW_cond; (case hc => (simp only [push_cast, seval]; rfl)); all_goals (intro hc; first | (exfalso; simp only [push_cast, seval, *] at hc; done) | (exact absurd hc (by decide)) | ((try first | rw [Bool.not_true] at hc | rw [Bool.not_false] at hc); first | (with_reducible replace hc := tTT hc); clear hc | (with_reducible replace hc := tFF hc); clear hc | (have hp := hc; try simp only [decide_eq_true_eq, decide_eq_false_iff_not, bA, bB, bC, bD, bE, bF, bG, bH] at hp))))
    | (refine Kn.go hK ?_; clear hK K)
    | refine Kn.go (by assumption) ?_
    | (intro n hn; (try simp only [upd_none2, join_none_iff, ite_none, ne_eq] at hn); (try simp only [push_cast, seval, *]))
    | (intro hc)
    | fail)
    exact ⟨_, H2, Weak.less (by repeat' (first | exact unhid l1 | refine le_skip ?_ (unhid l4))), z, rfl, unhid l2⟩
end Go.Proofs.Ytdeckjoeggmagaa
