/- Walks: a barrier. -/
import Derived.Test.YtdeckjoeggmagaaSE
namespace Go.Proofs.Ytdeckjoeggmagaa
open Go.RowKit
open Nat renaming reduceEqDiff → nA, reduceLT → nB, reduceLeDiff → nC, reduceAdd → nD, reduceMul → nE, reduceSub → nF, reduceBEq → nG
open Int renaming reduceToNat → iA, reduceLT → iB, reduceLE → iC, reduceEq → iD
open Bool renaming and_eq_true → bA, or_eq_true → bB, or_eq_false_iff → bC, and_eq_false_iff → bD, not_eq_true' → bE, not_eq_false' → bF, not_true → bG, not_false → bH
set_option linter.all false
set_option maxHeartbeats 4000000
attribute [local irreducible] AW Does ACall tE tS tB tZ
def dLSF0 : List En := [(0, true, []), (1, false, []), (2, false, []), (3, false, [0]), (4, false, []), (5, false, []), (6, false, []), (7, false, [])]
def dASF0 : List (List Nat) := [[], [], [1], [1, 2], [0, 1, 2, 3], [0, 1, 2, 3, 4], [0, 1, 2, 3, 4, 5], [0, 1, 2, 3, 4, 5, 6]]
attribute [push_cast] dLSF0
def dLSF1 : List En := [(0, false, []), (1, false, []), (3, true, []), (2, false, [3, 4]), (4, false, []), (5, false, []), (6, false, []), (7, false, [])]
def dASF1 : List (List Nat) := [[], [0], [0, 1], [], [3], [0, 1, 2, 3, 4], [0, 1, 2, 3, 4, 5], [0, 1, 2, 3, 4, 5, 6]]
attribute [push_cast] dLSF1
def dLSF2 : List En := [(0, true, []), (1, false, []), (2, false, []), (5, false, []), (6, true, []), (3, false, []), (4, false, [0, 6]), (7, false, [0]), (8, false, []), (9, false, []), (10, false, []), (11, false, [])]
def dASF2 : List (List Nat) := [[], [], [], [], [1, 2, 3], [], [5], [1, 2, 3, 4, 5, 6], [0, 1, 2, 3, 4, 5, 6, 7], [0, 1, 2, 3, 4, 5, 6, 7, 8], [0, 1, 2, 3, 4, 5, 6, 7, 8, 9], [0, 1, 2, 3, 4, 5, 6, 7, 8, 9, 10]]
attribute [push_cast] dLSF2
set_option maxRecDepth 5000

def barSk (s : Sk) : Sk × List Act × List Nm × Int :=
  if skOk s = false then (zeroSk, [], [], 270)
  else if s.opn = false then (s, [], s.rdy, 0)
  else if s.rdy.length = 24 then (zeroSk, [], [], 6)
  else ({ s with opn := false, rdy := s.rdy ++ [nameS s s.ser] }, [actS (nameS s s.ser) zRec 3], s.rdy ++ [nameS s s.ser], 0)
theorem weak_zb {H : Heap} {a b c d e f : AV} : Weak (.t [.g [a, b, c, d, .c (.slice none 0 0)], e, .c (.slice none 0 0), f]) H (.t [.g [a, b, c, d, .l 3 []], e, .l 3 [], f]) H :=
  (OwnL.none' (H := H) (ad := none) (sz := 3) (ty := 0)).weak fun F F' hF hi _ => Imp.t (Imps.cons (Imp.g (Imps.cons (Imp.refl hF _) id (Imps.cons (Imp.refl hF _) id (Imps.cons (Imp.refl hF _) id (Imps.cons (Imp.refl hF _) id (Imps.cons (Imp.nil_l 3) (fun _ => rfl) Imps.nil)))))) id (Imps.cons (Imp.refl hF _) id (Imps.cons (Imp.nil_l 3) (fun _ => rfl) (Imps.refl hF _))))
theorem sBarrier_o (s : Sk) (hl : s.rdy.length ≤ maxLen) (H : Heap) :
    ACall Try.prog 33 [.g (Sk.av s)] H fun z H' => ∃ y, z = .t [.g (Sk.av (barSk s).1), y, .l 3 ((barSk s).2.2.1.map Nm.av), .c (.int .i64 (barSk s).2.2.2)] ∧ OwnL H' y 61 7 ((barSk s).2.1.map Act.av) H := by
  have hck := sCheck_p s hl
  unfold barSk
  cases hok : skOk s
  · rw [hok] at hck
    simp only [Bool.false_eq_true, if_false, if_true] at hck ⊢
    obtain ⟨a, b, c, d, l⟩ := s
    simp only [Sk.av, zeroSk, List.map_nil] at hck ⊢
    clear hok
    refine ACall_of' Try.func33 rfl (Ent_of Try.func33 (by kernel_rfl) rfl) (by simp [Try.ntmps33]) ?_; simp only [Try.ntmps33, Try.results33]
    repeat' (first
    | refine AW_seq_kn fun K hK => ?_
    | refine AW_block ?_
    | (refine does_call rfl rfl ?_; simp only [push_cast, seval, *]; refine ACall.monoP (hck _) ?_; (try simp only [push_cast, seval, *]))
    | ((first
      | refine AW_region_draw (id := 5) E0 (fun f => [].contains f) dLSF0 dASF0 mixed (by kernel_rfl) ?_
      | refine AW_region_draw (id := 10) E0 (fun f => [].contains f) dLSF1 dASF1 mixed (by kernel_rfl) ?_
      | refine AW_region_draw (id := 11) E0 (fun f => [].contains f) dLSF2 dASF2 mixed (by kernel_rfl) ?_
      | refine AW_region E0 ?_ | refine AW_ret ?_ | refine AW_exit ?_ | refine AW_skip ?_ | unfold retQ); try simp only [push_cast, seval, *])
    | (apply AW_cond; (case hc => (simp only [push_cast, seval]; rfl)); all_goals (intro hc; first | (exfalso; simp only [push_cast, seval, *] at hc; done) | (exact absurd hc (by decide)) | ((try first | rw [Bool.not_true] at hc | rw [Bool.not_false] at hc); first | (with_reducible replace hc := tTT hc); clear hc | (with_reducible replace hc := tFF hc); clear hc | (have hp := hc; try simp only [decide_eq_true_eq, decide_eq_false_iff_not, bA, bB, bC, bD, bE, bF, bG, bH] at hp))))
    | (refine Kn.go hK ?_; clear hK K)
    | refine Kn.go (by assumption) ?_
    | (intro n hn; (try simp only [upd_none2, join_none_iff, ite_none, ne_eq] at hn); (try simp only [push_cast, seval, *]))
    | (intro hc)
    | fail)
    exact ⟨_, _, Weak.trans (Weak.less (by (repeat' (first | exact Heap.le_refl _ | refine hle_upd2 ?_ _ _ | (refine Heap.le_new ?_ ?_; rotate_left 1; focus (first | assumption | (simp only [upd_none2, upd_get, ne_eq, push_cast, seval, *]; done) | (simp [upd_get, *]; done))))))) weak_zb, _, rfl, OwnL.nil _ _ _⟩
  rw [hok] at hck
  simp only [if_true, Bool.true_eq_false, if_false] at hck ⊢
  obtain ⟨-, -, hbd, -, hll⟩ := skOk_bd hok
  have hcp := copied_p s.rdy (by omega)
  have hco := copied_o s.rdy (by omega)
  have hcp2 := copied_p (s.rdy ++ [nameS s s.ser]) (by simp; omega)
  have hnm := name_p s s.ser
  have hac : ∀ (M : Heap) (m : Nat), M m = some (.r 3 1 1 [[.c (.int .i64 3)]]) → ACall Try.prog 61 [.g (Nm.av (nameS s s.ser)), .g (Rec.av zRec), .s m 1 0 1 1] M fun z H' => OwnL H' z 61 7 ([actS (nameS s s.ser) zRec 3].map Act.av) M := fun M m hm => acts_l (M := M) (nameS s s.ser) zRec [3] (by simp) (kinds_lent (ks := [3]) (m := m) hm)
  obtain ⟨a, b, c, d, l⟩ := s
  simp only at hbd hll hcp hco hcp2
  simp only [Sk.av, zRec, Rec.av, Nm.av, nameS] at hck hnm hac ⊢
  clear hok
  cases d
  · simp only [if_true]
    clear hac hnm hco hcp2
    replace hcp := Lib.hid hcp
    refine ACall_of' Try.func33 rfl (Ent_of Try.func33 (by kernel_rfl) rfl) (by simp [Try.ntmps33]) ?_; simp only [Try.ntmps33, Try.results33]
    repeat' (first
    | refine AW_seq_kn fun K hK => ?_
    | refine AW_block ?_
    | (refine does_call rfl rfl ?_; simp only [push_cast, seval, *]; refine ACall.monoP (hck _) ?_; (try simp only [push_cast, seval, *]))
    | (refine does_call rfl rfl ?_; simp only [push_cast, seval, *]; refine ACall.monoP (unhid hcp _) ?_; (try simp only [push_cast, seval, *]))
    | ((first
      | refine AW_region_draw (id := 5) E0 (fun f => [].contains f) dLSF0 dASF0 mixed (by kernel_rfl) ?_
      | refine AW_region_draw (id := 10) E0 (fun f => [].contains f) dLSF1 dASF1 mixed (by kernel_rfl) ?_
      | refine AW_region_draw (id := 11) E0 (fun f => [].contains f) dLSF2 dASF2 mixed (by kernel_rfl) ?_
      | refine AW_region E0 ?_ | refine AW_ret ?_ | refine AW_exit ?_ | refine AW_skip ?_ | unfold retQ); try simp only [push_cast, seval, *])
    | (apply AW_cond; (case hc => (simp only [push_cast, seval]; rfl)); all_goals (intro hc; first | (exfalso; simp only [push_cast, seval, *] at hc; done) | (exact absurd hc (by decide)) | ((try first | rw [Bool.not_true] at hc | rw [Bool.not_false] at hc); first | (with_reducible replace hc := tTT hc); clear hc | (with_reducible replace hc := tFF hc); clear hc | (have hp := hc; try simp only [decide_eq_true_eq, decide_eq_false_iff_not, bA, bB, bC, bD, bE, bF, bG, bH] at hp))))
    | (refine Kn.go hK ?_; clear hK K)
    | refine Kn.go (by assumption) ?_
    | (intro n hn; (try simp only [upd_none2, join_none_iff, ite_none, ne_eq] at hn); (try simp only [push_cast, seval, *]))
    | (intro hc)
    | fail)
    exact ⟨_, _, Weak.less (by (repeat' (first | exact Heap.le_refl _ | refine hle_upd2 ?_ _ _ | (refine Heap.le_new ?_ ?_; rotate_left 1; focus (first | assumption | (simp only [upd_none2, upd_get, ne_eq, push_cast, seval, *]; done) | (simp [upd_get, *]; done)))))), _, rfl, OwnL.nil _ _ _⟩
  simp only [Bool.true_eq_false, if_false]
  by_cases h24 : l.length = 24
  · rw [if_pos h24]
    simp only [zeroSk, List.map_nil]
    clear hac hnm hco hcp2 hcp
    refine ACall_of' Try.func33 rfl (Ent_of Try.func33 (by kernel_rfl) rfl) (by simp [Try.ntmps33]) ?_; simp only [Try.ntmps33, Try.results33]
    repeat' (first
    | refine AW_seq_kn fun K hK => ?_
    | refine AW_block ?_
    | (refine does_call rfl rfl ?_; simp only [push_cast, seval, *]; refine ACall.monoP (hck _) ?_; (try simp only [push_cast, seval, *]))
    | ((first
      | refine AW_region_draw (id := 5) E0 (fun f => [].contains f) dLSF0 dASF0 mixed (by kernel_rfl) ?_
      | refine AW_region_draw (id := 10) E0 (fun f => [].contains f) dLSF1 dASF1 mixed (by kernel_rfl) ?_
      | refine AW_region_draw (id := 11) E0 (fun f => [].contains f) dLSF2 dASF2 mixed (by kernel_rfl) ?_
      | refine AW_region E0 ?_ | refine AW_ret ?_ | refine AW_exit ?_ | refine AW_skip ?_ | unfold retQ); try simp only [push_cast, seval, *])
    | (apply AW_cond; (case hc => (simp only [push_cast, seval]; rfl)); all_goals (intro hc; first | (exfalso; simp only [push_cast, seval, *] at hc; done) | (exact absurd hc (by decide)) | ((try first | rw [Bool.not_true] at hc | rw [Bool.not_false] at hc); first | (with_reducible replace hc := tTT hc); clear hc | (with_reducible replace hc := tFF hc); clear hc | (have hp := hc; try simp only [decide_eq_true_eq, decide_eq_false_iff_not, bA, bB, bC, bD, bE, bF, bG, bH] at hp))))
    | (refine Kn.go hK ?_; clear hK K)
    | refine Kn.go (by assumption) ?_
    | (intro n hn; (try simp only [upd_none2, join_none_iff, ite_none, ne_eq] at hn); (try simp only [push_cast, seval, *]))
    | (intro hc)
    | fail)
    exact ⟨_, _, Weak.trans (Weak.less (by (repeat' (first | exact Heap.le_refl _ | refine hle_upd2 ?_ _ _ | (refine Heap.le_new ?_ ?_; rotate_left 1; focus (first | assumption | (simp only [upd_none2, upd_get, ne_eq, push_cast, seval, *]; done) | (simp [upd_get, *]; done))))))) weak_zb, _, rfl, OwnL.nil _ _ _⟩
  rw [if_neg h24]
  replace h24 : ¬ (l.length : Int) = 24 := by omega
  clear hcp
  generalize hAC : [actS ⟨a, b, c⟩ ⟨0, 0, 0⟩ 3] = AC at *
  have hE := tE22
  have hS := tS26
  have hB := tB26
  have hZ := tZ26
  obtain ⟨L, hL⟩ : ∃ L, L = l ++ [(⟨a, b, c⟩ : Nm)] := ⟨_, rfl⟩
  have hLm : L.map Nm.av = l.map Nm.av ++ [Nm.av ⟨a, b, c⟩] := by rw [hL]; simp
  simp only [nameS] at hcp2
  rw [← hL] at hcp2 ⊢
  clear hL
  simp only [Nm.av] at hLm
  replace hLm := Lib.hid hLm
  replace hac := Lib.hid hac
  replace hcp2 := Lib.hid hcp2
  replace hco := Lib.hid hco
  refine ACall_of' Try.func33 rfl (Ent_of Try.func33 (by kernel_rfl) rfl) (by simp [Try.ntmps33]) ?_; simp only [Try.ntmps33, Try.results33]
  repeat' (first
    | refine AW_seq_kn fun K hK => ?_
    | refine AW_block ?_
    | (refine does_call rfl rfl ?_; simp only [push_cast, seval, *]; refine ACall.monoP (hck _) ?_; (try simp only [push_cast, seval, *]))
    | (refine does_call rfl rfl ?_; simp only [push_cast, seval, *]; refine ACall.monoP (hnm _) ?_; (try simp only [push_cast, seval, *]))
    | ((first
      | refine AW_region_draw (id := 5) E0 (fun f => [].contains f) dLSF0 dASF0 mixed (by kernel_rfl) ?_
      | refine AW_region_draw (id := 10) E0 (fun f => [].contains f) dLSF1 dASF1 mixed (by kernel_rfl) ?_
      | refine AW_region_draw (id := 11) E0 (fun f => [].contains f) dLSF2 dASF2 mixed (by kernel_rfl) ?_
      | refine AW_region E0 ?_ | refine AW_ret ?_ | refine AW_exit ?_ | refine AW_skip ?_ | unfold retQ); try simp only [push_cast, seval, *])
    | (apply AW_cond; (case hc => (simp only [push_cast, seval]; rfl)); all_goals (intro hc; first | (exfalso; simp only [push_cast, seval, *] at hc; done) | (exact absurd hc (by decide)) | ((try first | rw [Bool.not_true] at hc | rw [Bool.not_false] at hc); first | (with_reducible replace hc := tTT hc); clear hc | (with_reducible replace hc := tFF hc); clear hc | (have hp := hc; try simp only [decide_eq_true_eq, decide_eq_false_iff_not, bA, bB, bC, bD, bE, bF, bG, bH] at hp))))
    | (refine Kn.go hK ?_; clear hK K)
    | refine Kn.go (by assumption) ?_
    | (intro n hn; (try simp only [upd_none2, join_none_iff, ite_none, ne_eq] at hn); (try simp only [push_cast, seval, *]))
    | (intro hc)
    | fail)
  rename_i n1 h1 n2 h2
  generalize n = n3 at *
  obtain ⟨Gs, hGs⟩ : ∃ Gs : Heap, Gs = upd (upd (upd (upd H n1 (.r 34 5 1 [[.c (.int .i64 a), .c (.int .i64 b), .c (.int .i64 c), .c (.bool true), .l 3 (l.map Nm.av)]])) n2 (.r 34 5 1 [[.c (.int .i64 0), .c (.int .i64 0), .c (.int .i64 0), .c (.bool false), .c (.slice none 0 0)]])) n3 (.r 26 3 1 [[.c (.int .i64 a), .c (.int .i64 b), .c (.int .i64 c)]])) n1 (.r 34 5 1 [[.c (.int .i64 a), .c (.int .i64 b), .c (.int .i64 c), .c (.bool false), .l 3 (l.map Nm.av)]]) := ⟨_, rfl⟩
  have g1 : Gs n1 = some (.r 34 5 1 [[.c (.int .i64 a), .c (.int .i64 b), .c (.int .i64 c), .c (.bool false), .l 3 (l.map Nm.av)]]) := by rw [hGs]; exact upd_same _ _ _
  have g2 : Gs n2 = some (.r 34 5 1 [[.c (.int .i64 0), .c (.int .i64 0), .c (.int .i64 0), .c (.bool false), .c (.slice none 0 0)]]) := by rw [hGs]; simp only [push_cast, seval, upd_get, *]
  have g3 : Gs n3 = some (.r 26 3 1 [[.c (.int .i64 a), .c (.int .i64 b), .c (.int .i64 c)]]) := by rw [hGs]; simp only [push_cast, seval, upd_get, *]
  have hle : ∀ B, Heap.le H (upd Gs n1 B) := fun B q x hq => by
    have c1 : q ≠ n1 := by rintro rfl; rw [h1] at hq; cases hq
    have c2 : q ≠ n2 := by rintro rfl; rw [h2.2] at hq; cases hq
    have c3 : q ≠ n3 := by rintro rfl; rw [hn.2.2] at hq; cases hq
    simp only [hGs, upd_get, if_neg c1, if_neg c2, if_neg c3]; exact hq
  have h2n : H n2 = none := h2.2
  have o21 : n2 ≠ n1 := h2.1.1
  have o31 : n3 ≠ n1 := hn.2.1.1
  have o32 : n3 ≠ n2 := hn.1.1
  rw [← hGs]
  clear hGs hn h1 h2
  replace hle := Lib.hid hle
  replace h2n := Lib.hid h2n
  refine does_call rfl rfl ?_
  simp only [push_cast, seval, *]
  refine ACall.mono (unhid hco _) ?_
  intro z Hz hz
  have zcs := hz.cs
  have zone := hz.one
  have k1 := hz.get g1
  have k2 := hz.get g2
  have k3 := hz.get g3
  replace hz := Lib.hid hz
  clear hco
  (try simp only [push_cast, seval, *])
  repeat' (first
    | refine AW_seq_kn fun K hK => ?_
    | refine AW_block ?_
    | ((first
      | refine AW_region_draw (id := 5) E0 (fun f => [].contains f) dLSF0 dASF0 mixed (by kernel_rfl) ?_
      | refine AW_region_draw (id := 10) E0 (fun f => [].contains f) dLSF1 dASF1 mixed (by kernel_rfl) ?_
      | refine AW_region_draw (id := 11) E0 (fun f => [].contains f) dLSF2 dASF2 mixed (by kernel_rfl) ?_
      | refine AW_region E0 ?_ | refine AW_ret ?_ | refine AW_exit ?_ | refine AW_skip ?_ | unfold retQ); try simp only [push_cast, seval, *])
    | (apply AW_cond; (case hc => (simp only [push_cast, seval]; rfl)); all_goals (intro hc; first | (exfalso; simp only [push_cast, seval, *] at hc; done) | (exact absurd hc (by decide)) | ((try first | rw [Bool.not_true] at hc | rw [Bool.not_false] at hc); first | (with_reducible replace hc := tTT hc); clear hc | (with_reducible replace hc := tFF hc); clear hc | (have hp := hc; try simp only [decide_eq_true_eq, decide_eq_false_iff_not, bA, bB, bC, bD, bE, bF, bG, bH] at hp))))
    | (refine Kn.go hK ?_; clear hK K)
    | refine Kn.go (by assumption) ?_
    | (intro n hn; (try simp only [upd_none2, join_none_iff, ite_none, ne_eq] at hn); (try simp only [push_cast, seval, *]))
    | (intro hc)
    | fail)
  refine does_app1F rfl rfl rfl rfl (unhid hz) (by simp only [push_cast, seval, *]) hE hS hB hZ rfl (by decide) ?_ ?_ ?_
  · simp only [List.length_map, maxLen]; omega
  · simp only [List.length_map]; omega
  rw [← unhid hLm]
  clear hz k1 k2 k3 zcs zone
  (try simp only [push_cast, seval, *])
  repeat' (first
    | refine AW_seq_kn fun K hK => ?_
    | refine AW_block ?_
    | ((first
      | refine AW_region_draw (id := 5) E0 (fun f => [].contains f) dLSF0 dASF0 mixed (by kernel_rfl) ?_
      | refine AW_region_draw (id := 10) E0 (fun f => [].contains f) dLSF1 dASF1 mixed (by kernel_rfl) ?_
      | refine AW_region_draw (id := 11) E0 (fun f => [].contains f) dLSF2 dASF2 mixed (by kernel_rfl) ?_
      | refine AW_region E0 ?_ | refine AW_ret ?_ | refine AW_exit ?_ | refine AW_skip ?_ | unfold retQ); try simp only [push_cast, seval, *])
    | (apply AW_cond; (case hc => (simp only [push_cast, seval]; rfl)); all_goals (intro hc; first | (exfalso; simp only [push_cast, seval, *] at hc; done) | (exact absurd hc (by decide)) | ((try first | rw [Bool.not_true] at hc | rw [Bool.not_false] at hc); first | (with_reducible replace hc := tTT hc); clear hc | (with_reducible replace hc := tFF hc); clear hc | (have hp := hc; try simp only [decide_eq_true_eq, decide_eq_false_iff_not, bA, bB, bC, bD, bE, bF, bG, bH] at hp))))
    | (refine Kn.go hK ?_; clear hK K)
    | refine Kn.go (by assumption) ?_
    | (intro n hn; (try simp only [upd_none2, join_none_iff, ite_none, ne_eq] at hn); (try simp only [push_cast, seval, *]))
    | (intro hc)
    | fail)
  generalize n = m at *
  have gm : H m = none := le_no (unhid hle (.r 34 5 1 [[.c (.int .i64 a), .c (.int .i64 b), .c (.int .i64 c), .c (.bool false), .l 3 (L.map Nm.av)]])) (by simp only [push_cast, seval, upd_get, *])
  replace g1 : upd (upd Gs n1 (.r 34 5 1 [[.c (.int .i64 a), .c (.int .i64 b), .c (.int .i64 c), .c (.bool false), .l 3 (L.map Nm.av)]])) m (.r 3 1 1 [[.c (.int .i64 3)]]) n1 = some (.r 34 5 1 [[.c (.int .i64 a), .c (.int .i64 b), .c (.int .i64 c), .c (.bool false), .l 3 (L.map Nm.av)]]) := by simp only [push_cast, seval, upd_get, *]
  replace g2 := (show upd (upd Gs n1 (.r 34 5 1 [[.c (.int .i64 a), .c (.int .i64 b), .c (.int .i64 c), .c (.bool false), .l 3 (L.map Nm.av)]])) m (.r 3 1 1 [[.c (.int .i64 3)]]) n2 = some _ from by
    have o : n2 ≠ m := by rintro rfl; rw [hn.2] at g2; cases g2
    simp only [upd_get, if_neg o, if_neg o21]; exact g2)
  refine does_call rfl rfl ?_
  simp only [push_cast, seval, *]
  refine ACall.mono (unhid hac _ m (by simp only [push_cast, seval, upd_get, *])) ?_
  intro y Hy hy
  have ycs := hy.cs
  have yone := hy.one
  have k1 := hy.get g1
  have k2 := hy.get g2
  obtain ⟨H2, l1, l2, l3⟩ := (Loc.own _ _ _ _).cutx hy (K := H) (le_skip (unhid hle _) gm)
  have l4 := l3 n2 (by rw [g2]; simp) (unhid h2n)
  clear hy l3 g1 g2 hn hac
  replace l1 := Lib.hid l1
  replace l2 := Lib.hid l2
  replace l4 := Lib.hid l4
  (try simp only [push_cast, seval, *])
  repeat' (first
    | refine AW_seq_kn fun K hK => ?_
    | refine AW_block ?_
    | (refine does_call rfl rfl ?_; simp only [push_cast, seval, *]; refine ACall.monoP (unhid hcp2 _) ?_; (try simp only [push_cast, seval, *]))
    | ((first
      | refine AW_region_draw (id := 5) E0 (fun f => [].contains f) dLSF0 dASF0 mixed (by kernel_rfl) ?_
      | refine AW_region_draw (id := 10) E0 (fun f => [].contains f) dLSF1 dASF1 mixed (by kernel_rfl) ?_
      | refine AW_region_draw (id := 11) E0 (fun f => [].contains f) dLSF2 dASF2 mixed (by kernel_rfl) ?_
      | refine AW_region E0 ?_ | refine AW_ret ?_ | refine AW_exit ?_ | refine AW_skip ?_ | unfold retQ); try simp only [push_cast, seval, *])
    | (apply AW_cond; (case hc => (simp only [push_cast, seval]; rfl)); all_goals (intro hc; first | (exfalso; simp only [push_cast, seval, *] at hc; done) | (exact absurd hc (by decide)) | ((try first | rw [Bool.not_true] at hc | rw [Bool.not_false] at hc); first | (with_reducible replace hc := tTT hc); clear hc | (with_reducible replace hc := tFF hc); clear hc | (have hp := hc; try simp only [decide_eq_true_eq, decide_eq_false_iff_not, bA, bB, bC, bD, bE, bF, bG, bH] at hp))))
    | (refine Kn.go hK ?_; clear hK K)
    | refine Kn.go (by assumption) ?_
    | (intro n hn; (try simp only [upd_none2, join_none_iff, ite_none, ne_eq] at hn); (try simp only [push_cast, seval, *]))
    | (intro hc)
    | fail)
  exact ⟨_, H2, Weak.less (by repeat' (first | exact unhid l1 | refine le_skip ?_ (unhid l4))), y, rfl, unhid l2⟩
end Go.Proofs.Ytdeckjoeggmagaa
