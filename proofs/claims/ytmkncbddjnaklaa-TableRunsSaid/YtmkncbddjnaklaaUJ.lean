/- TableRuns, walked. -/
import Derived.Test.YtmkncbddjnaklaaUF
import Derived.Test.YtmkncbddjnaklaaUFd
import Derived.Test.YtmkncbddjnaklaaUG
import Derived.Test.YtmkncbddjnaklaaUS
import Derived.Test.YtmkncbddjnaklaaTI
import Derived.Test.YtmkncbddjnaklaaTJ2
import Derived.Test.YtmkncbddjnaklaaTW
namespace Go.Proofs.Ytmkncbddjnaklaa
open Go.RowKit
open Nat renaming reduceEqDiff → nA, reduceLT → nB, reduceLeDiff → nC, reduceAdd → nD, reduceMul → nE, reduceSub → nF, reduceBEq → nG
open Int renaming reduceToNat → iA, reduceLT → iB, reduceLE → iC, reduceEq → iD
open Bool renaming and_eq_true → bA, or_eq_true → bB, or_eq_false_iff → bC, and_eq_false_iff → bD, not_eq_true' → bE, not_eq_false' → bF, not_true → bG, not_false → bH
set_option linter.all false
set_option maxHeartbeats 4000000
attribute [local irreducible] AW Does ACall tE tS tB tZ
def dLUJ0 : List En := [(0, false, []), (2, true, []), (4, false, []), (1, false, [2, 6, 7]), (3, false, [6, 7]), (5, false, [6, 7]), (6, false, []), (7, false, []), (8, false, []), (9, false, []), (10, false, [])]
def dAUJ0 : List (List Nat) := [[], [0], [], [0, 1, 2], [], [0, 1, 2, 3, 4], [], [], [0, 1, 2, 3, 4, 5, 6, 7], [0, 1, 2, 3, 4, 5, 6, 7, 8], [0, 1, 2, 3, 4, 5, 6, 7, 8, 9]]
attribute [push_cast] dLUJ0
def dLUJ1 : List En := [(0, false, []), (2, true, []), (3, true, []), (1, false, [2, 3, 9]), (4, false, [9]), (5, false, []), (6, false, []), (7, false, []), (8, false, []), (9, false, []), (10, false, []), (11, false, []), (12, false, [])]
def dAUJ1 : List (List Nat) := [[], [0], [], [], [0, 1, 2, 3], [0, 1, 2, 3, 4], [0, 1, 2, 3, 4, 5], [0, 1, 2, 3, 4, 5], [0, 1, 2, 3, 4, 5], [], [0, 1, 2, 3, 4, 5, 6, 9], [0, 1, 2, 3, 4, 5, 6, 7, 9, 10], [0, 1, 2, 3, 4, 5, 6, 7, 8, 9, 10, 11]]
attribute [push_cast] dLUJ1
def dLUJ2 : List En := [(0, false, []), (2, true, []), (3, false, []), (1, false, [2, 9]), (4, false, [9]), (5, false, []), (6, false, []), (7, false, []), (8, false, []), (9, false, []), (10, false, []), (11, false, []), (12, false, [])]
def dAUJ2 : List (List Nat) := [[], [0], [], [], [0, 1, 2, 3], [0, 1, 2, 3, 4], [0, 1, 2, 3, 4, 5], [0, 1, 2, 3, 4, 5], [0, 1, 2, 3, 4, 5], [], [0, 1, 2, 3, 4, 5, 6, 9], [0, 1, 2, 3, 4, 5, 6, 7, 9, 10], [0, 1, 2, 3, 4, 5, 6, 7, 8, 9, 10, 11]]
attribute [push_cast] dLUJ2
def dLUJ3 : List En := [(0, false, []), (2, true, []), (3, false, []), (1, false, [2, 10]), (4, false, [2, 10]), (5, false, [10]), (6, false, []), (7, false, []), (8, false, []), (9, false, []), (10, false, []), (11, false, []), (12, false, []), (13, false, [])]
def dAUJ3 : List (List Nat) := [[], [0], [], [], [0, 1, 3], [0, 1, 2, 3, 4], [0, 1, 2, 3, 4, 5], [0, 1, 2, 3, 4, 5, 6], [0, 1, 2, 3, 4, 5, 6], [0, 1, 2, 3, 4, 5, 6], [], [0, 1, 2, 3, 4, 5, 6, 7, 10], [0, 1, 2, 3, 4, 5, 6, 7, 8, 10, 11], [0, 1, 2, 3, 4, 5, 6, 7, 8, 9, 10, 11, 12]]
attribute [push_cast] dLUJ3

theorem tRun_y (o : OpD) (hlO : o.ins.length ≤ maxLen) (hA : o.A ≤ 9223372036854775807) (T : List KC) (hT : T.length ≤ 90000) (l : List Rec) (hl : l.length ≤ maxLen) (H : Heap) :
    ACall Try.prog 37 [.g (OpD.av o), .g [.l 4 (T.map KC.av)], .l 3 (l.map Rec.av)] H fun q H' => ∃ y, q = .t [.g [y], .l 3 ((RunD o T l).2.1.map Rec.av), .c (.int .i64 (RunD o T l).2.2)] ∧ OwnL H' y 80 4 ((RunD o T l).1.map KC.av) H :=
  ACall.weak ((tRun_o o hlO hA T hT l hl H).mono fun q H' h => by
    obtain ⟨y, yo, rfl, G, h1, h2⟩ := h
    obtain ⟨H3, j1, j2⟩ := h1.swap h2
    exact ⟨_, H3, j1.weak fun F F' hF hi _ => Imp.t (Imps.cons (Imp.refl hF _) id (Imps.cons hi (fun _ => rfl) (Imps.cons (Imp.refl hF _) id Imps.nil))), y, rfl, j2⟩)
abbrev tbC (T : List KC) : Blk := .r 49 1 1 [[.l 4 (T.map KC.av)]]
theorem tableRuns_a (o : OpD) (ho : o.ins.length ≤ maxLen) (hA : o.A ≤ 9223372036854775807) (x : List KC) (hx : x.length ≤ maxLen) (hk : okTab x) (l : List Rec) (hl : l.length ≤ maxLen) (hv : ∀ r ∈ l, i64b r.v) (H : Heap) :
    ACall Try.prog 6 [.g (OpD.av o), .g [.l 4 (x.map KC.av)], .l 3 (l.map Rec.av)] H fun r _ => r = .c (.bool true) := by
  have hop := op12_p o ho
  have hsl : (shO o).ins.length ≤ maxLen := by simp [shO]; unfold maxLen at *; omega
  have hsA : (shO o).A ≤ 9223372036854775807 := hA
  have hsx := short12_p x hx
  have hfw := few12_p l hl
  have hT1 : (x.take 257).length ≤ 257 := by simp; omega
  have hC1 : (l.take 41).length ≤ 41 := by simp; omega
  have hk2 : okTab (x.take 257) := fun y hy => hk y (List.mem_of_mem_take hy)
  have hv2 : ∀ r ∈ l.take 41, i64b r.v := fun y hy => hv y (List.mem_of_mem_take hy)
  generalize x.take 257 = T at *
  generalize l.take 41 = C at *
  generalize shO o = o2 at *
  clear hk hv hA
  have hdo := fun r => tDo_p o2 hsl hsA T (by omega) r
  have hrd := fun r => rDo_p o2 hsl hsA T (by omega) r
  have hdl := fun r => DoT_len o2 T r
  have hru := fun H => tRun_y o2 hsl hsA T (by omega) C (by unfold maxLen; omega) H
  have hrr := rRun_p o2 hsl hsA T (by omega) C (by unfold maxLen; omega)
  rw [rRunT_eq o2 T C hk2 hv2] at hrr
  have hrl := RunD_len o2 T C
  have hst := rSame_p T T (by unfold maxLen; omega) (by unfold maxLen; omega)
  have hsc := sameRecs_p C C (by unfold maxLen; omega) (by unfold maxLen; omega)
  simp only [decide_true] at hst hsc
  generalize RunD o2 T C = R at *
  generalize DoT o2 T = gD at *
  obtain ⟨R1, R2, R3⟩ := R
  obtain ⟨t, w, il, A, Bo⟩ := o
  obtain ⟨t2, w2, l2, A2, B2⟩ := o2
  simp only [OpD.av] at hop hdo hrd hru hrr
  simp only [OpD.av]
  simp only at hrl hrr hru
  replace hdo := Lib.hid hdo
  replace hrd := Lib.hid hrd
  replace hdl := Lib.hid hdl
  replace hru := Lib.hid hru
  clear hk2 hv2 hsl hsA ho
  refine ACall_of' Try.func6 rfl (Ent_of Try.func6 (by kernel_rfl) rfl) (by simp [Try.ntmps6]) ?_; simp only [Try.ntmps6, Try.results6]
  repeat' (first
    | (refine AW_atB (id := 4) ?_)
    | refine AW_seq_kn fun K hK => ?_
    | refine AW_block ?_
    | (refine does_call rfl rfl ?_; simp only [push_cast, seval, *]; refine ACall.monoP (hsx _) ?_; (try simp only [push_cast, seval, *]))
    | (refine does_call rfl rfl ?_; simp only [push_cast, seval, *]; refine ACall.monoP (hfw _) ?_; (try simp only [push_cast, seval, *]))
    | (refine does_call rfl rfl ?_; simp only [push_cast, seval, *]; refine ACall.monoP (wakes12_p _) ?_; (try simp only [push_cast, seval, *]))
    | (refine does_call rfl rfl ?_; simp only [push_cast, seval, *]; refine ACall.monoP (rSame_p _ _ (by assumption) (by assumption) _) ?_; (try simp only [push_cast, seval, *]))
    | (refine does_call rfl rfl ?_; simp only [push_cast, seval, *]; refine ACall.monoP (short12_p _ (by assumption) _) ?_; (try simp only [push_cast, seval, *]))
    | (refine does_call rfl rfl ?_; simp only [push_cast, seval, *]; refine ACall.monoP (sameRecs_p _ _ (by assumption) (by assumption) _) ?_; (try simp only [push_cast, seval, *]))
    | (refine does_call rfl rfl ?_; simp only [push_cast, seval, *]; refine ACall.monoP (few12_p _ (by assumption) _) ?_; (try simp only [push_cast, seval, *]))
    | (refine does_call rfl rfl ?_; simp only [push_cast, seval, *]; refine ACall.monoP (op12_p ⟨_, _, _, _, _⟩ (by assumption) _) ?_; (try simp only [push_cast, seval, *]))
    | ((first
      | refine AW_region_draw (id := 3) E0 (fun f => [].contains f) dLUJ0 dAUJ0 mixed (by kernel_rfl) ?_
      | refine AW_region_draw (id := 8) E0 (fun f => [].contains f) dLUJ1 dAUJ1 mixed (by kernel_rfl) ?_
      | refine AW_region_draw (id := 9) E0 (fun f => [].contains f) dLUJ1 dAUJ1 mixed (by kernel_rfl) ?_
      | refine AW_region_draw (id := 13) E0 (fun f => [].contains f) dLUJ2 dAUJ2 mixed (by kernel_rfl) ?_
      | refine AW_region_draw (id := 14) E0 (fun f => [].contains f) dLUJ3 dAUJ3 mixed (by kernel_rfl) ?_
      | refine AW_region E0 ?_ | refine AW_ret ?_ | refine AW_exit ?_ | refine AW_skip ?_ | unfold retQ); try simp only [push_cast, seval, *])
    | ((first | (apply AW_cond; (case hc => (simp only [push_cast, seval]; rfl))) | (apply ER_guard; (case hb => (simp only [push_cast, seval]; rfl)))); all_goals ((intro hc; first | (exfalso; simp only [push_cast, seval, *] at hc; done) | (exact absurd hc (by decide)) | ((try first | rw [Bool.not_true] at hc | rw [Bool.not_false] at hc); first | (with_reducible replace hc := tTT hc); clear hc | (with_reducible replace hc := tFF hc); clear hc | (have hp := hc; try simp only [decide_eq_true_eq, decide_eq_false_iff_not, bA, bB, bC, bD, bE, bF, bG, bH] at hp))) <;> try simp only [push_cast, seval, *]))
    | (refine Kn.go hK ?_; clear hK K)
    | refine Kn.go (by assumption) ?_
    | (intro n hn; (try simp only [upd_none2, join_none_iff, ite_none, ne_eq] at hn); (try simp only [push_cast, seval, *]))
    | (intro hc)
    | (apply ER_blk; (case hp => rfl); (case hb => (simp only [push_cast, seval]; rfl)); (case hd => (simp only [push_cast, seval]; done)); (case h => (intro hc; simp only [push_cast, seval, *]; rfl)); simp only [push_cast, seval, *])
    | fail)
  refine ⟨?_⟩
  rename_i n3 h3 n4 h4 n7 h7
  generalize n = n8 at *
  obtain ⟨Hs, hHs⟩ : ∃ Hs : Heap, Hs = upd (upd (upd (upd (upd (upd H n3 (.r 24 5 1 [[.c (.int .i64 t), .c (.int .i64 w), .l 1 (il.map i1), .c (.int .i64 A), .c (.int .i64 Bo)]])) n4 (tbC x)) n7 (bxT (.c (.slice none 0 0)))) n8 (bxT (.c (.slice none 0 0)))) n7 (tbC T)) n8 (tbC T) := ⟨_, rfl⟩
  have g3 : Hs n3 = some (.r 24 5 1 [[.c (.int .i64 t), .c (.int .i64 w), .l 1 (il.map i1), .c (.int .i64 A), .c (.int .i64 Bo)]]) := by rw [hHs]; simp only [push_cast, seval, *]
  have g7 : Hs n7 = some (tbC T) := by rw [hHs]; simp only [push_cast, seval, *]
  have g8 : Hs n8 = some (tbC T) := by rw [hHs]; exact upd_same _ _ _
  simp only [tbC, bxT] at hHs
  rw [← hHs]
  clear hHs h3 h4 h7 hn hsx
  have hno3 := ne_old g3
  have hno7 := ne_old g7
  have hno8 := ne_old g8
  simp only [tbC] at g7 g8
  refine AW_seqC [(2, .l 3 (l.map Rec.av)), (3, .p n3 5 0 0), (7, .p n7 1 0 0), (8, .p n8 1 0 0), (9, .l 3 (C.map Rec.av))] Hs ?_ ?_
  · clear hru hrr hfw hsc
    repeat' (first
    | refine AW_seq_kn fun K hK => ?_
    | refine AW_block ?_
    | (refine does_call rfl rfl ?_; simp only [push_cast, seval, *]; refine ACall.monoP (wakes12_p _) ?_; (try simp only [push_cast, seval, *]))
    | (refine does_call rfl rfl ?_; simp only [push_cast, seval, *]; refine ACall.monoP (rSame_p _ _ (by assumption) (by assumption) _) ?_; (try simp only [push_cast, seval, *]))
    | (refine does_call rfl rfl ?_; simp only [push_cast, seval, *]; refine ACall.monoP (short12_p _ (by assumption) _) ?_; (try simp only [push_cast, seval, *]))
    | (refine does_call rfl rfl ?_; simp only [push_cast, seval, *]; refine ACall.monoP (sameRecs_p _ _ (by assumption) (by assumption) _) ?_; (try simp only [push_cast, seval, *]))
    | (refine does_call rfl rfl ?_; simp only [push_cast, seval, *]; refine ACall.monoP (few12_p _ (by assumption) _) ?_; (try simp only [push_cast, seval, *]))
    | (refine does_call rfl rfl ?_; simp only [push_cast, seval, *]; refine ACall.monoP (op12_p ⟨_, _, _, _, _⟩ (by assumption) _) ?_; (try simp only [push_cast, seval, *]))
    | ((first
      | refine AW_region_draw (id := 3) E0 (fun f => [].contains f) dLUJ0 dAUJ0 mixed (by kernel_rfl) ?_
      | refine AW_region_draw (id := 8) E0 (fun f => [].contains f) dLUJ1 dAUJ1 mixed (by kernel_rfl) ?_
      | refine AW_region_draw (id := 9) E0 (fun f => [].contains f) dLUJ1 dAUJ1 mixed (by kernel_rfl) ?_
      | refine AW_region_draw (id := 13) E0 (fun f => [].contains f) dLUJ2 dAUJ2 mixed (by kernel_rfl) ?_
      | refine AW_region_draw (id := 14) E0 (fun f => [].contains f) dLUJ3 dAUJ3 mixed (by kernel_rfl) ?_
      | refine AW_region E0 ?_ | refine AW_ret ?_ | refine AW_exit ?_ | refine AW_skip ?_ | unfold retQ); try simp only [push_cast, seval, *])
    | ((first | (apply AW_cond; (case hc => (simp only [push_cast, seval]; rfl))) | (apply ER_guard; (case hb => (simp only [push_cast, seval]; rfl)))); all_goals ((intro hc; first | (exfalso; simp only [push_cast, seval, *] at hc; done) | (exact absurd hc (by decide)) | ((try first | rw [Bool.not_true] at hc | rw [Bool.not_false] at hc); first | (with_reducible replace hc := tTT hc); clear hc | (with_reducible replace hc := tFF hc); clear hc | (have hp := hc; try simp only [decide_eq_true_eq, decide_eq_false_iff_not, bA, bB, bC, bD, bE, bF, bG, bH] at hp))) <;> try simp only [push_cast, seval, *]))
    | (refine Kn.go hK ?_; clear hK K)
    | refine Kn.go (by assumption) ?_
    | (intro n hn; (try simp only [upd_none2, join_none_iff, ite_none, ne_eq] at hn); (try simp only [push_cast, seval, *]))
    | (intro hc)
    | (apply ER_blk; (case hp => rfl); (case hb => (simp only [push_cast, seval]; rfl)); (case hd => (simp only [push_cast, seval]; done)); (case h => (intro hc; simp only [push_cast, seval, *]; rfl)); simp only [push_cast, seval, *])
    | fail)
    refine AW_loopN C.length (fun _ => True) (fun k => [(2, .l 3 (l.map Rec.av)), (3, .p n3 5 0 0), (7, .p n7 1 0 0), (8, .p n8 1 0 0), (9, .l 3 (C.map Rec.av)), (32, .l 3 (C.map Rec.av)), (33, ci C.length), (34, ci k)]) (fun _ => Hs) trivial ?_ ?_ ?_ ?_
    · (first | trivial | (simp only [push_cast, seval, *]; done))
    · exact Heap.le_refl _
    · rintro k hk -
      have hr := List.getElem?_eq_getElem (l := C) hk; generalize C[k] = r at hr; have hrm := List.mem_of_getElem? hr; have hkl : (k : Int) < C.length := (by omega); have hkw : IntKind.i64.wrap ((k : Int) + 1) = (k : Int) + 1 := wrap_i64 (by omega) (by omega)
      by_cases h6 : k = 6
      · have h6T : ((k : Int) = 6) = True := by simp [h6]
        replace h6 := Lib.hid h6
        repeat' (first
    | refine AW_seq_kn fun K hK => ?_
    | refine AW_block ?_
    | (refine does_call rfl rfl ?_; simp only [push_cast, seval, *]; refine ACall.monoP (wakes12_p _) ?_; (try simp only [push_cast, seval, *]))
    | (refine does_call rfl rfl ?_; simp only [push_cast, seval, *]; refine ACall.monoP (rSame_p _ _ (by assumption) (by assumption) _) ?_; (try simp only [push_cast, seval, *]))
    | (refine does_call rfl rfl ?_; simp only [push_cast, seval, *]; refine ACall.monoP (short12_p _ (by assumption) _) ?_; (try simp only [push_cast, seval, *]))
    | (refine does_call rfl rfl ?_; simp only [push_cast, seval, *]; refine ACall.monoP (sameRecs_p _ _ (by assumption) (by assumption) _) ?_; (try simp only [push_cast, seval, *]))
    | (refine does_call rfl rfl ?_; simp only [push_cast, seval, *]; refine ACall.monoP (few12_p _ (by assumption) _) ?_; (try simp only [push_cast, seval, *]))
    | (refine does_call rfl rfl ?_; simp only [push_cast, seval, *]; refine ACall.monoP (op12_p ⟨_, _, _, _, _⟩ (by assumption) _) ?_; (try simp only [push_cast, seval, *]))
    | ((first
      | refine AW_region_draw (id := 3) E0 (fun f => [].contains f) dLUJ0 dAUJ0 mixed (by kernel_rfl) ?_
      | refine AW_region_draw (id := 8) E0 (fun f => [].contains f) dLUJ1 dAUJ1 mixed (by kernel_rfl) ?_
      | refine AW_region_draw (id := 9) E0 (fun f => [].contains f) dLUJ1 dAUJ1 mixed (by kernel_rfl) ?_
      | refine AW_region_draw (id := 13) E0 (fun f => [].contains f) dLUJ2 dAUJ2 mixed (by kernel_rfl) ?_
      | refine AW_region_draw (id := 14) E0 (fun f => [].contains f) dLUJ3 dAUJ3 mixed (by kernel_rfl) ?_
      | refine AW_region E0 ?_ | refine AW_ret ?_ | refine AW_exit ?_ | refine AW_skip ?_ | unfold retQ); try simp only [push_cast, seval, *])
    | ((first | (apply AW_cond; (case hc => (simp only [push_cast, seval]; rfl))) | (apply ER_guard; (case hb => (simp only [push_cast, seval]; rfl)))); all_goals ((intro hc; first | (exfalso; simp only [push_cast, seval, *] at hc; done) | (exact absurd hc (by decide)) | ((try first | rw [Bool.not_true] at hc | rw [Bool.not_false] at hc); first | (with_reducible replace hc := tTT hc); clear hc | (with_reducible replace hc := tFF hc); clear hc | (have hp := hc; try simp only [decide_eq_true_eq, decide_eq_false_iff_not, bA, bB, bC, bD, bE, bF, bG, bH] at hp))) <;> try simp only [push_cast, seval, *]))
    | (refine Kn.go hK ?_; clear hK K)
    | refine Kn.go (by assumption) ?_
    | (intro n hn; (try simp only [upd_none2, join_none_iff, ite_none, ne_eq] at hn); (try simp only [push_cast, seval, *]))
    | (intro hc)
    | (apply ER_blk; (case hp => rfl); (case hb => (simp only [push_cast, seval]; rfl)); (case hd => (simp only [push_cast, seval]; done)); (case h => (intro hc; simp only [push_cast, seval, *]; rfl)); simp only [push_cast, seval, *])
    | fail)
        exact ⟨trivial, by (first | trivial | (simp only [push_cast, seval, *]; done)), by first | trivial | (repeat' (first | exact Heap.le_refl _ | refine hle_upd2 ?_ _ _ | (refine Heap.le_new ?_ ?_; rotate_left 1; focus (first | assumption | (simp only [upd_none2, upd_get, ne_eq, push_cast, seval, *]; done) | (simp [upd_get, *]; done)))))⟩
      have h6F : ¬ (k : Int) = 6 := by omega
      have hd := unhid hdo r
      have hr2 := unhid hrd r
      have hl2 := unhid hdl r
      generalize gD r = D at *
      obtain ⟨D1, D2, D3⟩ := D
      obtain ⟨rs, rk, rv⟩ := r
      simp only [Rec.av] at hd hr2
      simp only at hl2
      have hs1 := rSame_p D1 D1 (by unfold maxLen; omega) (by unfold maxLen; omega)
      have hs2 := sameRecs_p D2 D2 (by unfold maxLen; omega) (by unfold maxLen; omega)
      simp only [decide_true] at hs1 hs2
      clear hl2
      repeat' (first
    | refine AW_seq_kn fun K hK => ?_
    | refine AW_block ?_
    | (refine does_call rfl rfl ?_; simp only [push_cast, seval, *]; refine ACall.monoP (hop _) ?_; (try simp only [push_cast, seval, *]))
    | (refine does_call rfl rfl ?_; simp only [push_cast, seval, *]; refine ACall.monoP (hd _) ?_; (try simp only [push_cast, seval, *]))
    | (refine does_call rfl rfl ?_; simp only [push_cast, seval, *]; refine ACall.monoP (hr2 _) ?_; (try simp only [push_cast, seval, *]))
    | (refine does_call rfl rfl ?_; simp only [push_cast, seval, *]; refine ACall.monoP (hst _) ?_; (try simp only [push_cast, seval, *]))
    | (refine does_call rfl rfl ?_; simp only [push_cast, seval, *]; refine ACall.monoP (hs1 _) ?_; (try simp only [push_cast, seval, *]))
    | (refine does_call rfl rfl ?_; simp only [push_cast, seval, *]; refine ACall.monoP (hs2 _) ?_; (try simp only [push_cast, seval, *]))
    | (refine does_call rfl rfl ?_; simp only [push_cast, seval, *]; refine ACall.monoP (wakes12_p _) ?_; (try simp only [push_cast, seval, *]))
    | (refine does_call rfl rfl ?_; simp only [push_cast, seval, *]; refine ACall.monoP (rSame_p _ _ (by assumption) (by assumption) _) ?_; (try simp only [push_cast, seval, *]))
    | (refine does_call rfl rfl ?_; simp only [push_cast, seval, *]; refine ACall.monoP (short12_p _ (by assumption) _) ?_; (try simp only [push_cast, seval, *]))
    | (refine does_call rfl rfl ?_; simp only [push_cast, seval, *]; refine ACall.monoP (sameRecs_p _ _ (by assumption) (by assumption) _) ?_; (try simp only [push_cast, seval, *]))
    | (refine does_call rfl rfl ?_; simp only [push_cast, seval, *]; refine ACall.monoP (few12_p _ (by assumption) _) ?_; (try simp only [push_cast, seval, *]))
    | (refine does_call rfl rfl ?_; simp only [push_cast, seval, *]; refine ACall.monoP (op12_p ⟨_, _, _, _, _⟩ (by assumption) _) ?_; (try simp only [push_cast, seval, *]))
    | ((first
      | refine AW_region_draw (id := 3) E0 (fun f => [].contains f) dLUJ0 dAUJ0 mixed (by kernel_rfl) ?_
      | refine AW_region_draw (id := 8) E0 (fun f => [].contains f) dLUJ1 dAUJ1 mixed (by kernel_rfl) ?_
      | refine AW_region_draw (id := 9) E0 (fun f => [].contains f) dLUJ1 dAUJ1 mixed (by kernel_rfl) ?_
      | refine AW_region_draw (id := 13) E0 (fun f => [].contains f) dLUJ2 dAUJ2 mixed (by kernel_rfl) ?_
      | refine AW_region_draw (id := 14) E0 (fun f => [].contains f) dLUJ3 dAUJ3 mixed (by kernel_rfl) ?_
      | refine AW_region E0 ?_ | refine AW_ret ?_ | refine AW_exit ?_ | refine AW_skip ?_ | unfold retQ); try simp only [push_cast, seval, *])
    | ((first | (apply AW_cond; (case hc => (simp only [push_cast, seval]; rfl))) | (apply ER_guard; (case hb => (simp only [push_cast, seval]; rfl)))); all_goals ((intro hc; first | (exfalso; simp only [push_cast, seval, *] at hc; done) | (exact absurd hc (by decide)) | ((try first | rw [Bool.not_true] at hc | rw [Bool.not_false] at hc); first | (with_reducible replace hc := tTT hc); clear hc | (with_reducible replace hc := tFF hc); clear hc | (have hp := hc; try simp only [decide_eq_true_eq, decide_eq_false_iff_not, bA, bB, bC, bD, bE, bF, bG, bH] at hp))) <;> try simp only [push_cast, seval, *]))
    | (refine Kn.go hK ?_; clear hK K)
    | refine Kn.go (by assumption) ?_
    | (intro n hn; (try simp only [upd_none2, join_none_iff, ite_none, ne_eq] at hn); (try simp only [push_cast, seval, *]))
    | (intro hc)
    | (apply ER_blk; (case hp => rfl); (case hb => (simp only [push_cast, seval]; rfl)); (case hd => (simp only [push_cast, seval]; done)); (case h => (intro hc; simp only [push_cast, seval, *]; rfl)); simp only [push_cast, seval, *])
    | fail)
      exact ⟨trivial, by (first | trivial | (simp only [push_cast, seval, *]; done)), by first | trivial | (repeat' (first | exact Heap.le_refl _ | refine hle_upd2 ?_ _ _ | (refine Heap.le_new ?_ ?_; rotate_left 1; focus (first | assumption | (simp only [upd_none2, upd_get, ne_eq, push_cast, seval, *]; done) | (simp [upd_get, *]; done)))))⟩
    · rintro -
      repeat' (first
    | refine AW_seq_kn fun K hK => ?_
    | refine AW_block ?_
    | (refine does_call rfl rfl ?_; simp only [push_cast, seval, *]; refine ACall.monoP (wakes12_p _) ?_; (try simp only [push_cast, seval, *]))
    | (refine does_call rfl rfl ?_; simp only [push_cast, seval, *]; refine ACall.monoP (rSame_p _ _ (by assumption) (by assumption) _) ?_; (try simp only [push_cast, seval, *]))
    | (refine does_call rfl rfl ?_; simp only [push_cast, seval, *]; refine ACall.monoP (short12_p _ (by assumption) _) ?_; (try simp only [push_cast, seval, *]))
    | (refine does_call rfl rfl ?_; simp only [push_cast, seval, *]; refine ACall.monoP (sameRecs_p _ _ (by assumption) (by assumption) _) ?_; (try simp only [push_cast, seval, *]))
    | (refine does_call rfl rfl ?_; simp only [push_cast, seval, *]; refine ACall.monoP (few12_p _ (by assumption) _) ?_; (try simp only [push_cast, seval, *]))
    | (refine does_call rfl rfl ?_; simp only [push_cast, seval, *]; refine ACall.monoP (op12_p ⟨_, _, _, _, _⟩ (by assumption) _) ?_; (try simp only [push_cast, seval, *]))
    | ((first
      | refine AW_region_draw (id := 3) E0 (fun f => [].contains f) dLUJ0 dAUJ0 mixed (by kernel_rfl) ?_
      | refine AW_region_draw (id := 8) E0 (fun f => [].contains f) dLUJ1 dAUJ1 mixed (by kernel_rfl) ?_
      | refine AW_region_draw (id := 9) E0 (fun f => [].contains f) dLUJ1 dAUJ1 mixed (by kernel_rfl) ?_
      | refine AW_region_draw (id := 13) E0 (fun f => [].contains f) dLUJ2 dAUJ2 mixed (by kernel_rfl) ?_
      | refine AW_region_draw (id := 14) E0 (fun f => [].contains f) dLUJ3 dAUJ3 mixed (by kernel_rfl) ?_
      | refine AW_region E0 ?_ | refine AW_ret ?_ | refine AW_exit ?_ | refine AW_skip ?_ | unfold retQ); try simp only [push_cast, seval, *])
    | ((first | (apply AW_cond; (case hc => (simp only [push_cast, seval]; rfl))) | (apply ER_guard; (case hb => (simp only [push_cast, seval]; rfl)))); all_goals ((intro hc; first | (exfalso; simp only [push_cast, seval, *] at hc; done) | (exact absurd hc (by decide)) | ((try first | rw [Bool.not_true] at hc | rw [Bool.not_false] at hc); first | (with_reducible replace hc := tTT hc); clear hc | (with_reducible replace hc := tFF hc); clear hc | (have hp := hc; try simp only [decide_eq_true_eq, decide_eq_false_iff_not, bA, bB, bC, bD, bE, bF, bG, bH] at hp))) <;> try simp only [push_cast, seval, *]))
    | (refine Kn.go hK ?_; clear hK K)
    | refine Kn.go (by assumption) ?_
    | (intro n hn; (try simp only [upd_none2, join_none_iff, ite_none, ne_eq] at hn); (try simp only [push_cast, seval, *]))
    | (intro hc)
    | (apply ER_blk; (case hp => rfl); (case hb => (simp only [push_cast, seval]; rfl)); (case hd => (simp only [push_cast, seval]; done)); (case h => (intro hc; simp only [push_cast, seval, *]; rfl)); simp only [push_cast, seval, *])
    | fail)
      exact ⟨trivial, by (first | trivial | (simp only [push_cast, seval, *]; done)), by first | trivial | (repeat' (first | exact Heap.le_refl _ | refine hle_upd2 ?_ _ _ | (refine Heap.le_new ?_ ?_; rotate_left 1; focus (first | assumption | (simp only [upd_none2, upd_get, ne_eq, push_cast, seval, *]; done) | (simp [upd_get, *]; done)))))⟩
  clear hdo hrd hdl
  repeat' (first
    | refine AW_seq_kn fun K hK => ?_
    | refine AW_block ?_
    | (refine does_call rfl rfl ?_; simp only [push_cast, seval, *]; refine ACall.monoP (hop _) ?_; (try simp only [push_cast, seval, *]))
    | (refine does_call rfl rfl ?_; simp only [push_cast, seval, *]; refine ACall.monoP (wakes12_p _) ?_; (try simp only [push_cast, seval, *]))
    | (refine does_call rfl rfl ?_; simp only [push_cast, seval, *]; refine ACall.monoP (rSame_p _ _ (by assumption) (by assumption) _) ?_; (try simp only [push_cast, seval, *]))
    | (refine does_call rfl rfl ?_; simp only [push_cast, seval, *]; refine ACall.monoP (short12_p _ (by assumption) _) ?_; (try simp only [push_cast, seval, *]))
    | (refine does_call rfl rfl ?_; simp only [push_cast, seval, *]; refine ACall.monoP (sameRecs_p _ _ (by assumption) (by assumption) _) ?_; (try simp only [push_cast, seval, *]))
    | (refine does_call rfl rfl ?_; simp only [push_cast, seval, *]; refine ACall.monoP (few12_p _ (by assumption) _) ?_; (try simp only [push_cast, seval, *]))
    | (refine does_call rfl rfl ?_; simp only [push_cast, seval, *]; refine ACall.monoP (op12_p ⟨_, _, _, _, _⟩ (by assumption) _) ?_; (try simp only [push_cast, seval, *]))
    | ((first
      | refine AW_region_draw (id := 3) E0 (fun f => [].contains f) dLUJ0 dAUJ0 mixed (by kernel_rfl) ?_
      | refine AW_region_draw (id := 8) E0 (fun f => [].contains f) dLUJ1 dAUJ1 mixed (by kernel_rfl) ?_
      | refine AW_region_draw (id := 9) E0 (fun f => [].contains f) dLUJ1 dAUJ1 mixed (by kernel_rfl) ?_
      | refine AW_region_draw (id := 13) E0 (fun f => [].contains f) dLUJ2 dAUJ2 mixed (by kernel_rfl) ?_
      | refine AW_region_draw (id := 14) E0 (fun f => [].contains f) dLUJ3 dAUJ3 mixed (by kernel_rfl) ?_
      | refine AW_region E0 ?_ | refine AW_ret ?_ | refine AW_exit ?_ | refine AW_skip ?_ | unfold retQ); try simp only [push_cast, seval, *])
    | ((first | (apply AW_cond; (case hc => (simp only [push_cast, seval]; rfl))) | (apply ER_guard; (case hb => (simp only [push_cast, seval]; rfl)))); all_goals ((intro hc; first | (exfalso; simp only [push_cast, seval, *] at hc; done) | (exact absurd hc (by decide)) | ((try first | rw [Bool.not_true] at hc | rw [Bool.not_false] at hc); first | (with_reducible replace hc := tTT hc); clear hc | (with_reducible replace hc := tFF hc); clear hc | (have hp := hc; try simp only [decide_eq_true_eq, decide_eq_false_iff_not, bA, bB, bC, bD, bE, bF, bG, bH] at hp))) <;> try simp only [push_cast, seval, *]))
    | (refine Kn.go hK ?_; clear hK K)
    | refine Kn.go (by assumption) ?_
    | (intro n hn; (try simp only [upd_none2, join_none_iff, ite_none, ne_eq] at hn); (try simp only [push_cast, seval, *]))
    | (intro hc)
    | (apply ER_blk; (case hp => rfl); (case hb => (simp only [push_cast, seval]; rfl)); (case hd => (simp only [push_cast, seval]; done)); (case h => (intro hc; simp only [push_cast, seval, *]; rfl)); simp only [push_cast, seval, *])
    | fail)
  refine does_call rfl rfl ?_
  simp only [push_cast, seval, *]
  refine ACall.mono (unhid hru Hs) ?_
  rintro q B ⟨y, rfl, hown⟩
  have k3 := hown.get g3
  have k7 := hown.get g7
  have k8 := hown.get g8
  have hcs := hown.cs
  have hone := hown.one
  have hnb3 := ne_old k3
  have hnb7 := ne_old k7
  have hnb8 := ne_old k8
  replace hown := Lib.hid hown
  clear hru
  (try simp only [push_cast, seval, *])
  repeat' (first
    | refine AW_seq_kn fun K hK => ?_
    | refine AW_block ?_
    | (refine does_call rfl rfl ?_; simp only [push_cast, seval, *]; refine ACall.monoP (hop _) ?_; (try simp only [push_cast, seval, *]))
    | (refine does_call rfl rfl ?_; simp only [push_cast, seval, *]; refine ACall.monoP (hfw _) ?_; (try simp only [push_cast, seval, *]))
    | (refine does_call rfl rfl ?_; simp only [push_cast, seval, *]; refine ACall.monoP (hrr _) ?_; (try simp only [push_cast, seval, *]))
    | (refine does_call rfl rfl ?_; simp only [push_cast, seval, *]; refine ACall.monoP (wakes12_p _) ?_; (try simp only [push_cast, seval, *]))
    | (refine does_call rfl rfl ?_; simp only [push_cast, seval, *]; refine ACall.monoP (rSame_p _ _ (by assumption) (by assumption) _) ?_; (try simp only [push_cast, seval, *]))
    | (refine does_call rfl rfl ?_; simp only [push_cast, seval, *]; refine ACall.monoP (short12_p _ (by assumption) _) ?_; (try simp only [push_cast, seval, *]))
    | (refine does_call rfl rfl ?_; simp only [push_cast, seval, *]; refine ACall.monoP (sameRecs_p _ _ (by assumption) (by assumption) _) ?_; (try simp only [push_cast, seval, *]))
    | (refine does_call rfl rfl ?_; simp only [push_cast, seval, *]; refine ACall.monoP (few12_p _ (by assumption) _) ?_; (try simp only [push_cast, seval, *]))
    | (refine does_call rfl rfl ?_; simp only [push_cast, seval, *]; refine ACall.monoP (op12_p ⟨_, _, _, _, _⟩ (by assumption) _) ?_; (try simp only [push_cast, seval, *]))
    | ((first
      | refine AW_region_draw (id := 3) E0 (fun f => [].contains f) dLUJ0 dAUJ0 mixed (by kernel_rfl) ?_
      | refine AW_region_draw (id := 8) E0 (fun f => [].contains f) dLUJ1 dAUJ1 mixed (by kernel_rfl) ?_
      | refine AW_region_draw (id := 9) E0 (fun f => [].contains f) dLUJ1 dAUJ1 mixed (by kernel_rfl) ?_
      | refine AW_region_draw (id := 13) E0 (fun f => [].contains f) dLUJ2 dAUJ2 mixed (by kernel_rfl) ?_
      | refine AW_region_draw (id := 14) E0 (fun f => [].contains f) dLUJ3 dAUJ3 mixed (by kernel_rfl) ?_
      | refine AW_region E0 ?_ | refine AW_ret ?_ | refine AW_exit ?_ | refine AW_skip ?_ | unfold retQ); try simp only [push_cast, seval, *])
    | ((first | (apply AW_cond; (case hc => (simp only [push_cast, seval]; rfl))) | (apply ER_guard; (case hb => (simp only [push_cast, seval]; rfl)))); all_goals ((intro hc; first | (exfalso; simp only [push_cast, seval, *] at hc; done) | (exact absurd hc (by decide)) | ((try first | rw [Bool.not_true] at hc | rw [Bool.not_false] at hc); first | (with_reducible replace hc := tTT hc); clear hc | (with_reducible replace hc := tFF hc); clear hc | (have hp := hc; try simp only [decide_eq_true_eq, decide_eq_false_iff_not, bA, bB, bC, bD, bE, bF, bG, bH] at hp))) <;> try simp only [push_cast, seval, *]))
    | (refine Kn.go hK ?_; clear hK K)
    | refine Kn.go (by assumption) ?_
    | (intro n hn; (try simp only [upd_none2, join_none_iff, ite_none, ne_eq] at hn); (try simp only [push_cast, seval, *]))
    | (intro hc)
    | (apply ER_blk; (case hp => rfl); (case hb => (simp only [push_cast, seval]; rfl)); (case hd => (simp only [push_cast, seval]; done)); (case h => (intro hc; simp only [push_cast, seval, *]; rfl)); simp only [push_cast, seval, *])
    | fail)
  rename_i n18 h18 K2 hK2
  generalize n = n21 at *
  have own2 := ((unhid hown).new h18 (bxT y)).new (m := n21) (by simp only [upd_none2]; exact hn) (tbC R1)
  have hsl := rSame_l R1 R1 (by unfold maxLen; omega) (by unfold maxLen; omega) own2
  have hsr := sameRecs_p R2 R2 (by unfold maxLen; omega) (by unfold maxLen; omega)
  rw [decide_eq_true rfl] at hsl hsr
  refine does_call rfl rfl ?_
  simp only [push_cast, seval, *]
  refine ACall.mono hsl ?_
  rintro _ _ ⟨rfl, e2⟩
  have e3 := e2.symm; clear e2; subst e3
  clear hsl
  replace own2 := Lib.hid own2
  (try simp only [push_cast, seval, *])
  repeat' (first
    | refine AW_seq_kn fun K hK => ?_
    | refine AW_block ?_
    | (refine does_call rfl rfl ?_; simp only [push_cast, seval, *]; refine ACall.monoP (hfw _) ?_; (try simp only [push_cast, seval, *]))
    | (refine does_call rfl rfl ?_; simp only [push_cast, seval, *]; refine ACall.monoP (hsr _) ?_; (try simp only [push_cast, seval, *]))
    | (refine does_call rfl rfl ?_; simp only [push_cast, seval, *]; refine ACall.monoP (hsc _) ?_; (try simp only [push_cast, seval, *]))
    | (refine does_call rfl rfl ?_; simp only [push_cast, seval, *]; refine ACall.monoP (wakes12_p _) ?_; (try simp only [push_cast, seval, *]))
    | (refine does_call rfl rfl ?_; simp only [push_cast, seval, *]; refine ACall.monoP (rSame_p _ _ (by assumption) (by assumption) _) ?_; (try simp only [push_cast, seval, *]))
    | (refine does_call rfl rfl ?_; simp only [push_cast, seval, *]; refine ACall.monoP (short12_p _ (by assumption) _) ?_; (try simp only [push_cast, seval, *]))
    | (refine does_call rfl rfl ?_; simp only [push_cast, seval, *]; refine ACall.monoP (sameRecs_p _ _ (by assumption) (by assumption) _) ?_; (try simp only [push_cast, seval, *]))
    | (refine does_call rfl rfl ?_; simp only [push_cast, seval, *]; refine ACall.monoP (few12_p _ (by assumption) _) ?_; (try simp only [push_cast, seval, *]))
    | (refine does_call rfl rfl ?_; simp only [push_cast, seval, *]; refine ACall.monoP (op12_p ⟨_, _, _, _, _⟩ (by assumption) _) ?_; (try simp only [push_cast, seval, *]))
    | ((first
      | refine AW_region_draw (id := 3) E0 (fun f => [].contains f) dLUJ0 dAUJ0 mixed (by kernel_rfl) ?_
      | refine AW_region_draw (id := 8) E0 (fun f => [].contains f) dLUJ1 dAUJ1 mixed (by kernel_rfl) ?_
      | refine AW_region_draw (id := 9) E0 (fun f => [].contains f) dLUJ1 dAUJ1 mixed (by kernel_rfl) ?_
      | refine AW_region_draw (id := 13) E0 (fun f => [].contains f) dLUJ2 dAUJ2 mixed (by kernel_rfl) ?_
      | refine AW_region_draw (id := 14) E0 (fun f => [].contains f) dLUJ3 dAUJ3 mixed (by kernel_rfl) ?_
      | refine AW_region E0 ?_ | refine AW_ret ?_ | refine AW_exit ?_ | refine AW_skip ?_ | unfold retQ); try simp only [push_cast, seval, *])
    | ((first | (apply AW_cond; (case hc => (simp only [push_cast, seval]; rfl))) | (apply ER_guard; (case hb => (simp only [push_cast, seval]; rfl)))); all_goals ((intro hc; first | (exfalso; simp only [push_cast, seval, *] at hc; done) | (exact absurd hc (by decide)) | ((try first | rw [Bool.not_true] at hc | rw [Bool.not_false] at hc); first | (with_reducible replace hc := tTT hc); clear hc | (with_reducible replace hc := tFF hc); clear hc | (have hp := hc; try simp only [decide_eq_true_eq, decide_eq_false_iff_not, bA, bB, bC, bD, bE, bF, bG, bH] at hp))) <;> try simp only [push_cast, seval, *]))
    | (refine Kn.go hK ?_; clear hK K)
    | refine Kn.go (by assumption) ?_
    | (intro n hn; (try simp only [upd_none2, join_none_iff, ite_none, ne_eq] at hn); (try simp only [push_cast, seval, *]))
    | (intro hc)
    | (apply ER_blk; (case hp => rfl); (case hb => (simp only [push_cast, seval]; rfl)); (case hd => (simp only [push_cast, seval]; done)); (case h => (intro hc; simp only [push_cast, seval, *]; rfl)); simp only [push_cast, seval, *])
    | fail)
  have hsp := spoil_o R1 (by omega) y _ _ (unhid own2)
  refine does_call rfl rfl ?_
  simp only [push_cast, seval, *]
  refine ACall.mono hsp ?_
  rintro _ _ e2
  have e3 := e2.symm; clear e2; subst e3
  have c7a : ¬ n7 = n18 := of_eq_false (hnb7 n18 h18).1
  have c7b : ¬ n7 = n21 := of_eq_false (hnb7 n21 hn.2).1
  have c8a : ¬ n8 = n18 := of_eq_false (hnb8 n18 h18).1
  have c8b : ¬ n8 = n21 := of_eq_false (hnb8 n21 hn.2).1
  clear hsp own2 hown k3 k7 k8 hnb3 hnb7 hnb8 hno3 hno7 hno8 hcs hn h18
  (try simp only [push_cast, seval, *])
  repeat' (first
    | refine AW_seq_kn fun K hK => ?_
    | refine AW_block ?_
    | (refine does_call rfl rfl ?_; simp only [push_cast, seval, *]; refine ACall.monoP (hst _) ?_; (try simp only [push_cast, seval, *]))
    | (refine does_call rfl rfl ?_; simp only [push_cast, seval, *]; refine ACall.monoP (wakes12_p _) ?_; (try simp only [push_cast, seval, *]))
    | (refine does_call rfl rfl ?_; simp only [push_cast, seval, *]; refine ACall.monoP (rSame_p _ _ (by assumption) (by assumption) _) ?_; (try simp only [push_cast, seval, *]))
    | (refine does_call rfl rfl ?_; simp only [push_cast, seval, *]; refine ACall.monoP (short12_p _ (by assumption) _) ?_; (try simp only [push_cast, seval, *]))
    | (refine does_call rfl rfl ?_; simp only [push_cast, seval, *]; refine ACall.monoP (sameRecs_p _ _ (by assumption) (by assumption) _) ?_; (try simp only [push_cast, seval, *]))
    | (refine does_call rfl rfl ?_; simp only [push_cast, seval, *]; refine ACall.monoP (few12_p _ (by assumption) _) ?_; (try simp only [push_cast, seval, *]))
    | (refine does_call rfl rfl ?_; simp only [push_cast, seval, *]; refine ACall.monoP (op12_p ⟨_, _, _, _, _⟩ (by assumption) _) ?_; (try simp only [push_cast, seval, *]))
    | ((first
      | refine AW_region_draw (id := 3) E0 (fun f => [].contains f) dLUJ0 dAUJ0 mixed (by kernel_rfl) ?_
      | refine AW_region_draw (id := 8) E0 (fun f => [].contains f) dLUJ1 dAUJ1 mixed (by kernel_rfl) ?_
      | refine AW_region_draw (id := 9) E0 (fun f => [].contains f) dLUJ1 dAUJ1 mixed (by kernel_rfl) ?_
      | refine AW_region_draw (id := 13) E0 (fun f => [].contains f) dLUJ2 dAUJ2 mixed (by kernel_rfl) ?_
      | refine AW_region_draw (id := 14) E0 (fun f => [].contains f) dLUJ3 dAUJ3 mixed (by kernel_rfl) ?_
      | refine AW_region E0 ?_ | refine AW_ret ?_ | refine AW_exit ?_ | refine AW_skip ?_ | unfold retQ); try simp only [push_cast, seval, *])
    | ((first | (apply AW_cond; (case hc => (simp only [push_cast, seval]; rfl))) | (apply ER_guard; (case hb => (simp only [push_cast, seval]; rfl)))); all_goals ((intro hc; first | (exfalso; simp only [push_cast, seval, *] at hc; done) | (exact absurd hc (by decide)) | ((try first | rw [Bool.not_true] at hc | rw [Bool.not_false] at hc); first | (with_reducible replace hc := tTT hc); clear hc | (with_reducible replace hc := tFF hc); clear hc | (have hp := hc; try simp only [decide_eq_true_eq, decide_eq_false_iff_not, bA, bB, bC, bD, bE, bF, bG, bH] at hp))) <;> try simp only [push_cast, seval, *]))
    | (refine Kn.go hK ?_; clear hK K)
    | refine Kn.go (by assumption) ?_
    | (intro n hn; (try simp only [upd_none2, join_none_iff, ite_none, ne_eq] at hn); (try simp only [push_cast, seval, *]))
    | (intro hc)
    | (apply ER_blk; (case hp => rfl); (case hb => (simp only [push_cast, seval]; rfl)); (case hd => (simp only [push_cast, seval]; done)); (case h => (intro hc; simp only [push_cast, seval, *]; rfl)); simp only [push_cast, seval, *])
    | fail)
  exact ⟨_, _, Weak.refl _ _, rfl⟩
end Go.Proofs.Ytmkncbddjnaklaa
