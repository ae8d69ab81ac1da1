/- TableShares, walked. -/
import Derived.Test.YtmkncbddjnaklaaUF
import Derived.Test.YtmkncbddjnaklaaUFd
import Derived.Test.YtmkncbddjnaklaaUG
import Derived.Test.YtmkncbddjnaklaaTI
import Derived.Test.YtmkncbddjnaklaaTJ2
import Derived.Test.YtmkncbddjnaklaaTL
import Derived.Test.YtmkncbddjnaklaaUQ0
import Derived.Test.YtmkncbddjnaklaaUP
namespace Go.Proofs.Ytmkncbddjnaklaa
open Go.RowKit
open Nat renaming reduceEqDiff → nA, reduceLT → nB, reduceLeDiff → nC, reduceAdd → nD, reduceMul → nE, reduceSub → nF, reduceBEq → nG
open Int renaming reduceToNat → iA, reduceLT → iB, reduceLE → iC, reduceEq → iD
open Bool renaming and_eq_true → bA, or_eq_true → bB, or_eq_false_iff → bC, and_eq_false_iff → bD, not_eq_true' → bE, not_eq_false' → bF, not_true → bG, not_false → bH
set_option linter.all false
set_option maxHeartbeats 4000000
attribute [local irreducible] AW Does ACall tE tS tB tZ
def dLUQ0 : List En := [(0, false, []), (2, true, []), (1, false, [2, 4]), (3, false, [4]), (4, false, []), (5, false, []), (6, false, [])]
def dAUQ0 : List (List Nat) := [[], [0], [], [0, 1, 2], [], [0, 1, 2, 3, 4], [0, 1, 2, 3, 4, 5]]
attribute [push_cast] dLUQ0

theorem Join_pp (a b : List KC) (ha : a.length ≤ 9000) (hb : b.length ≤ 90000) :
    Pure Try.prog 45 [.g [.l 4 (a.map KC.av)], .g [.l 4 (b.map KC.av)]] (.t [.g [.l 4 ((joinD a b).1.map KC.av)], .c (.int .i64 (joinD a b).2)]) := fun H =>
  ACall.weak ((Join_o a b ha hb H).mono fun q H' h => by
    obtain ⟨y, rfl, h1⟩ := h
    exact ⟨_, _, weak_tab h1, rfl, rfl⟩)
theorem tOk_len2 {T : List KC} (h : tOk T = true) : T.length ≤ 256 := tOk_len h
theorem DoT_lenX (o : OpD) (T : List KC) (r : Rec) : (DoT o T r).1.length ≤ T.length + 1 ∧ (DoT o T r).2.1.length ≤ 1 := by
  rw [DoT_eqX]
  have h1 := setS_len T r (runS o (getS T r) [r.v]).1
  have h2 := runS1_len o (getS T r) r.v
  repeat' split
  all_goals simp
  exact ⟨h1, h2⟩
theorem tableShares_a (o : OpD) (ho : o.ins.length ≤ maxLen) (hA : o.A ≤ 9223372036854775807) (x : List KC) (hx : x.length ≤ maxLen) (hk : okTb x) (l : List Rec) (hl : l.length ≤ maxLen) (hv : ∀ r ∈ l, i64b r.v) (H : Heap) :
    ACall Try.prog 12 [.g (OpD.av o), .g [.l 4 (x.map KC.av)], .l 3 (l.map Rec.av)] H fun r _ => r = .c (.bool true) := by
  have hop := op12_p o ho
  have hsl : (shO o).ins.length ≤ maxLen := by simp [shO]; unfold maxLen at *; omega
  have hsA : (shO o).A ≤ 9223372036854775807 := hA
  have hsx := short12_p x hx
  have hfw := few12_p l hl
  have hT1 : (x.take 257).length ≤ 257 := by simp; omega
  have hC1 : (l.take 41).length ≤ 41 := by simp; omega
  have hk2 : okTb (x.take 257) := fun y hy => hk y (List.mem_of_mem_take hy)
  have hv2 : ∀ r ∈ l.take 41, i64b r.v := fun y hy => hv y (List.mem_of_mem_take hy)
  generalize x.take 257 = T at *
  generalize l.take 41 = C at *
  generalize shO o = o2 at *
  clear hk hv hA ho
  have hfi := tfits_p o2 hsl T (by unfold maxLen; omega)
  have hfa := fun (S : List KC) (h : S.length ≤ 257) => tfits_p o2 hsl S (by unfold maxLen; omega)
  have hda := fun (S : List KC) (h : S.length ≤ 300) r => tDo_p o2 hsl hsA S (by omega) r
  obtain ⟨t, w, il, A, Bo⟩ := o
  obtain ⟨O2, hO2⟩ : ∃ O2 : OpD, O2 = o2 := ⟨_, rfl⟩
  obtain ⟨t2, w2, l2, A2, B2⟩ := o2
  rw [← hO2] at hfi hfa hda
  have hoa : OpD.av O2 = [.c (.int .i64 t2), .c (.int .i64 w2), .l 1 (l2.map i1), .c (.int .i64 A2), .c (.int .i64 B2)] := by rw [hO2]; rfl
  rw [hoa] at hfi hfa hda
  simp only [OpD.av] at hop ⊢
  clear hO2 hoa hsl hsA
  replace hfa := Lib.hid hfa
  replace hda := Lib.hid hda
  replace hv2 := Lib.hid hv2
  cases hft : fitsT O2 T
  · rw [hft] at hfi
    refine ACall_of' Try.func12 rfl (Ent_of Try.func12 (by kernel_rfl) rfl) (by simp [Try.ntmps12]) ?_; simp only [Try.ntmps12, Try.results12]
    repeat' (first
    | refine AW_seq_kn fun K hK => ?_
    | refine AW_block ?_
    | (refine does_call rfl rfl ?_; simp only [push_cast, seval, *]; refine ACall.monoP (hsx _) ?_; (try simp only [push_cast, seval, *]))
    | (refine does_call rfl rfl ?_; simp only [push_cast, seval, *]; refine ACall.monoP (hop _) ?_; (try simp only [push_cast, seval, *]))
    | (refine does_call rfl rfl ?_; simp only [push_cast, seval, *]; refine ACall.monoP (hfi _) ?_; (try simp only [push_cast, seval, *]))
    | (refine does_call rfl rfl ?_; simp only [push_cast, seval, *]; refine ACall.monoP (wakes12_p _) ?_; (try simp only [push_cast, seval, *]))
    | (refine does_call rfl rfl ?_; simp only [push_cast, seval, *]; refine ACall.monoP (short12_p _ (by assumption) _) ?_; (try simp only [push_cast, seval, *]))
    | (refine does_call rfl rfl ?_; simp only [push_cast, seval, *]; refine ACall.monoP (tsame_p _ _ (by assumption) (by assumption) _) ?_; (try simp only [push_cast, seval, *]))
    | (refine does_call rfl rfl ?_; simp only [push_cast, seval, *]; refine ACall.monoP (sameRecs_p _ _ (by assumption) (by assumption) _) ?_; (try simp only [push_cast, seval, *]))
    | (refine does_call rfl rfl ?_; simp only [push_cast, seval, *]; refine ACall.monoP (few12_p _ (by assumption) _) ?_; (try simp only [push_cast, seval, *]))
    | (refine does_call rfl rfl ?_; simp only [push_cast, seval, *]; refine ACall.monoP (op12_p ⟨_, _, _, _, _⟩ (by assumption) _) ?_; (try simp only [push_cast, seval, *]))
    | (refine does_call rfl rfl ?_; simp only [push_cast, seval, *]; refine ACall.monoP (tfits_p ⟨_, _, _, _, _⟩ (by assumption) _ (by assumption) _) ?_; (try simp only [push_cast, seval, *]))
    | ((first
      | refine AW_region_draw (id := 3) E0 (fun f => [].contains f) dLUQ0 dAUQ0 mixed (by kernel_rfl) ?_
      | refine AW_region E0 ?_ | refine AW_ret ?_ | refine AW_exit ?_ | refine AW_skip ?_ | unfold retQ); try simp only [push_cast, seval, *])
    | ((first | (apply AW_cond; (case hc => (simp only [push_cast, seval]; rfl))) | (apply ER_guard; (case hb => (simp only [push_cast, seval]; rfl)))); all_goals ((intro hc; first | (exfalso; simp only [push_cast, seval, *] at hc; done) | (exact absurd hc (by decide)) | ((try first | rw [Bool.not_true] at hc | rw [Bool.not_false] at hc); first | (with_reducible replace hc := tTT hc); clear hc | (with_reducible replace hc := tFF hc); clear hc | (have hp := hc; try simp only [decide_eq_true_eq, decide_eq_false_iff_not, bA, bB, bC, bD, bE, bF, bG, bH] at hp))) <;> try simp only [push_cast, seval, *]))
    | (refine Kn.go hK ?_; clear hK K)
    | refine Kn.go (by assumption) ?_
    | (intro n hn; (try simp only [upd_none2, join_none_iff, ite_none, ne_eq] at hn); (try simp only [push_cast, seval, *]))
    | (intro hc)
    | (apply ER_blk; (case hp => rfl); (case hb => (simp only [push_cast, seval]; rfl)); (case hd => (simp only [push_cast, seval]; done)); (case h => (intro hc; simp only [push_cast, seval, *]; rfl)); simp only [push_cast, seval, *])
    | fail)
    exact ⟨_, _, Weak.refl _ _, rfl⟩
  rw [hft] at hfi
  refine ACall_of' Try.func12 rfl (Ent_of Try.func12 (by kernel_rfl) rfl) (by simp [Try.ntmps12]) ?_; simp only [Try.ntmps12, Try.results12]
  repeat' (first
    | refine AW_seq_kn fun K hK => ?_
    | refine AW_block ?_
    | (refine does_call rfl rfl ?_; simp only [push_cast, seval, *]; refine ACall.monoP (hsx _) ?_; (try simp only [push_cast, seval, *]))
    | (refine does_call rfl rfl ?_; simp only [push_cast, seval, *]; refine ACall.monoP (hop _) ?_; (try simp only [push_cast, seval, *]))
    | (refine does_call rfl rfl ?_; simp only [push_cast, seval, *]; refine ACall.monoP (hfi _) ?_; (try simp only [push_cast, seval, *]))
    | (refine does_call rfl rfl ?_; simp only [push_cast, seval, *]; refine ACall.monoP (hfw _) ?_; (try simp only [push_cast, seval, *]))
    | (refine does_call rfl rfl ?_; simp only [push_cast, seval, *]; refine ACall.monoP (wakes12_p _) ?_; (try simp only [push_cast, seval, *]))
    | (refine does_call rfl rfl ?_; simp only [push_cast, seval, *]; refine ACall.monoP (short12_p _ (by assumption) _) ?_; (try simp only [push_cast, seval, *]))
    | (refine does_call rfl rfl ?_; simp only [push_cast, seval, *]; refine ACall.monoP (tsame_p _ _ (by assumption) (by assumption) _) ?_; (try simp only [push_cast, seval, *]))
    | (refine does_call rfl rfl ?_; simp only [push_cast, seval, *]; refine ACall.monoP (sameRecs_p _ _ (by assumption) (by assumption) _) ?_; (try simp only [push_cast, seval, *]))
    | (refine does_call rfl rfl ?_; simp only [push_cast, seval, *]; refine ACall.monoP (few12_p _ (by assumption) _) ?_; (try simp only [push_cast, seval, *]))
    | (refine does_call rfl rfl ?_; simp only [push_cast, seval, *]; refine ACall.monoP (op12_p ⟨_, _, _, _, _⟩ (by assumption) _) ?_; (try simp only [push_cast, seval, *]))
    | (refine does_call rfl rfl ?_; simp only [push_cast, seval, *]; refine ACall.monoP (tfits_p ⟨_, _, _, _, _⟩ (by assumption) _ (by assumption) _) ?_; (try simp only [push_cast, seval, *]))
    | ((first
      | refine AW_region_draw (id := 3) E0 (fun f => [].contains f) dLUQ0 dAUQ0 mixed (by kernel_rfl) ?_
      | refine AW_region E0 ?_ | refine AW_ret ?_ | refine AW_exit ?_ | refine AW_skip ?_ | unfold retQ); try simp only [push_cast, seval, *])
    | ((first | (apply AW_cond; (case hc => (simp only [push_cast, seval]; rfl))) | (apply ER_guard; (case hb => (simp only [push_cast, seval]; rfl)))); all_goals ((intro hc; first | (exfalso; simp only [push_cast, seval, *] at hc; done) | (exact absurd hc (by decide)) | ((try first | rw [Bool.not_true] at hc | rw [Bool.not_false] at hc); first | (with_reducible replace hc := tTT hc); clear hc | (with_reducible replace hc := tFF hc); clear hc | (have hp := hc; try simp only [decide_eq_true_eq, decide_eq_false_iff_not, bA, bB, bC, bD, bE, bF, bG, bH] at hp))) <;> try simp only [push_cast, seval, *]))
    | (refine Kn.go hK ?_; clear hK K)
    | refine Kn.go (by assumption) ?_
    | (intro n hn; (try simp only [upd_none2, join_none_iff, ite_none, ne_eq] at hn); (try simp only [push_cast, seval, *]))
    | (intro hc)
    | (apply ER_blk; (case hp => rfl); (case hb => (simp only [push_cast, seval]; rfl)); (case hd => (simp only [push_cast, seval]; done)); (case h => (intro hc; simp only [push_cast, seval, *]; rfl)); simp only [push_cast, seval, *])
    | fail)
  rename_i n3 h3 n4 h4
  generalize n = n7 at *
  obtain ⟨Hs, hHs⟩ : ∃ Hs : Heap, Hs = upd H n3 (.r 24 5 1 [[.c (.int .i64 t2), .c (.int .i64 w2), .l 1 (l2.map i1), .c (.int .i64 A2), .c (.int .i64 B2)]]) := ⟨_, rfl⟩
  have g3 : Hs n3 = some (.r 24 5 1 [[.c (.int .i64 t2), .c (.int .i64 w2), .l 1 (l2.map i1), .c (.int .i64 A2), .c (.int .i64 B2)]]) := by rw [hHs]; exact upd_same _ _ _
  have hG7 : Hs n7 = none := by rw [hHs]; simp only [upd_none2]; exact ⟨hn.2.1, hn.2.2⟩
  have hle0 : ∀ a b c d, Heap.le (upd Hs n7 (tbB T)) (upd (upd (upd (upd (upd H n3 a) n4 b) n7 c) n3 (.r 24 5 1 [[.c (.int .i64 t2), .c (.int .i64 w2), .l 1 (l2.map i1), .c (.int .i64 A2), .c (.int .i64 B2)]])) n7 d) ↔ (d = tbB T) := by
    intro a b c d
    constructor
    · intro h
      have := h n7 _ (upd_same _ _ _)
      rw [upd_same] at this; cases this; rfl
    · rintro rfl q z hq
      by_cases e : q = n7
      · subst e; rw [upd_same] at hq ⊢; exact hq
      · rw [upd_ne e] at hq ⊢
        rw [hHs] at hq
        by_cases e3 : q = n3
        · subst e3; rw [upd_same] at hq ⊢; exact hq
        · rw [upd_ne e3] at hq ⊢
          have e4 : q ≠ n4 := by rintro rfl; rw [h4.2] at hq; cases hq
          rw [upd_ne e, upd_ne e4, upd_ne e3]; exact hq
  have hno3 := ne_old g3
  have c37 : ¬ n3 = n7 := of_eq_false (hno3 n7 hG7).1
  have c73 : ¬ n7 = n3 := of_eq_false (hno3 n7 hG7).2
  refine AW_loopX (σ := List KC) C.length (fun k S => fitsT O2 S = true ∧ okTb S ∧ S.length ≤ 257) (fun k S => [(3, .p n3 5 0 0), (7, .p n7 1 0 0), (31, .l 3 (C.map Rec.av)), (32, ci C.length), (33, ci k)]) (fun _ S => upd Hs n7 (tbB S)) T ⟨hft, hk2, hT1⟩ ?_ ?_ ?_ ?_
  · (first | trivial | (simp only [push_cast, seval, *]; done))
  · exact (hle0 _ _ _ _).2 rfl
  · clear hle0 hHs h3 h4 hn hsx hop hfw hfi hft hk2 hT1
    rintro k S hk ⟨hS1, hS2, hS3⟩
    have hr := List.getElem?_eq_getElem (l := C) hk; generalize C[k] = r at hr; have hrm := List.mem_of_getElem? hr; have hkl : (k : Int) < C.length := (by omega); have hkw : IntKind.i64.wrap ((k : Int) + 1) = (k : Int) + 1 := wrap_i64 (by omega) (by omega)
    by_cases h12 : k = 12
    · have h12T : ((k : Int) = 12) = True := by simp [h12]
      replace h12 := Lib.hid h12
      repeat' (first
    | refine AW_seq_kn fun K hK => ?_
    | refine AW_block ?_
    | (refine does_call rfl rfl ?_; simp only [push_cast, seval, *]; refine ACall.monoP (wakes12_p _) ?_; (try simp only [push_cast, seval, *]))
    | (refine does_call rfl rfl ?_; simp only [push_cast, seval, *]; refine ACall.monoP (short12_p _ (by assumption) _) ?_; (try simp only [push_cast, seval, *]))
    | (refine does_call rfl rfl ?_; simp only [push_cast, seval, *]; refine ACall.monoP (tsame_p _ _ (by assumption) (by assumption) _) ?_; (try simp only [push_cast, seval, *]))
    | (refine does_call rfl rfl ?_; simp only [push_cast, seval, *]; refine ACall.monoP (sameRecs_p _ _ (by assumption) (by assumption) _) ?_; (try simp only [push_cast, seval, *]))
    | (refine does_call rfl rfl ?_; simp only [push_cast, seval, *]; refine ACall.monoP (few12_p _ (by assumption) _) ?_; (try simp only [push_cast, seval, *]))
    | (refine does_call rfl rfl ?_; simp only [push_cast, seval, *]; refine ACall.monoP (op12_p ⟨_, _, _, _, _⟩ (by assumption) _) ?_; (try simp only [push_cast, seval, *]))
    | (refine does_call rfl rfl ?_; simp only [push_cast, seval, *]; refine ACall.monoP (tfits_p ⟨_, _, _, _, _⟩ (by assumption) _ (by assumption) _) ?_; (try simp only [push_cast, seval, *]))
    | ((first
      | refine AW_region_draw (id := 3) E0 (fun f => [].contains f) dLUQ0 dAUQ0 mixed (by kernel_rfl) ?_
      | refine AW_region E0 ?_ | refine AW_ret ?_ | refine AW_exit ?_ | refine AW_skip ?_ | unfold retQ); try simp only [push_cast, seval, *])
    | ((first | (apply AW_cond; (case hc => (simp only [push_cast, seval]; rfl))) | (apply ER_guard; (case hb => (simp only [push_cast, seval]; rfl)))); all_goals ((intro hc; first | (exfalso; simp only [push_cast, seval, *] at hc; done) | (exact absurd hc (by decide)) | ((try first | rw [Bool.not_true] at hc | rw [Bool.not_false] at hc); first | (with_reducible replace hc := tTT hc); clear hc | (with_reducible replace hc := tFF hc); clear hc | (have hp := hc; try simp only [decide_eq_true_eq, decide_eq_false_iff_not, bA, bB, bC, bD, bE, bF, bG, bH] at hp))) <;> try simp only [push_cast, seval, *]))
    | (refine Kn.go hK ?_; clear hK K)
    | refine Kn.go (by assumption) ?_
    | (intro n hn; (try simp only [upd_none2, join_none_iff, ite_none, ne_eq] at hn); (try simp only [push_cast, seval, *]))
    | (intro hc)
    | (apply ER_blk; (case hp => rfl); (case hb => (simp only [push_cast, seval]; rfl)); (case hd => (simp only [push_cast, seval]; done)); (case h => (intro hc; simp only [push_cast, seval, *]; rfl)); simp only [push_cast, seval, *])
    | fail)
      exact ⟨_, _, Weak.refl _ _, rfl⟩
    have h12F : ¬ (k : Int) = 12 := by omega
    have hsh := share_law O2 S r hS1 hS2 (unhid hv2 r hrm)
    have hd := unhid hda S (by omega) r
    have hDl := DoT_lenX O2 S r
    have hSt := (fitsT_iff.1 hS1).1
    have hpe := fun j hj => part_eq hSt (w := 2) (i := j) (by omega) hj
    have hpl := fun j => part_len S j 2
    have hpa := fun j => Part_p S (by omega) j 2
    generalize hD : DoT O2 S r = D at *
    obtain ⟨D1, D2, D3⟩ := D
    simp only at hsh hd hDl
    have hmi := fun j => mine_p r.s r.k r.v j 2
    rw [show (⟨r.s, r.k, r.v⟩ : Rec) = r from rfl] at hmi
    have hra : Rec.av r = [.c (.int .i64 r.s), .c (.int .i64 r.k), .c (.int .i64 r.v)] := rfl
    rw [hra] at hd
    have hda2 := fun (P : List KC) (hP : P.length ≤ 300) => unhid hda P hP r
    rw [hra] at hda2
    replace hda2 := Lib.hid hda2
    replace hsh := Lib.hid hsh
    replace hpe := Lib.hid hpe
    replace hpa := Lib.hid hpa
    replace hpl := Lib.hid hpl
    replace hmi := Lib.hid hmi
    clear hda
    by_cases h0 : D3 = 0
    rotate_left
    · have h0F : (D3 = 0) = False := by simp [h0]
      clear hsh
      simp only [tbB]
      repeat' (first
    | refine AW_seq_kn fun K hK => ?_
    | refine AW_block ?_
    | (refine does_call rfl rfl ?_; simp only [push_cast, seval, *]; refine ACall.monoP (hd _) ?_; (try simp only [push_cast, seval, *]))
    | (refine does_call rfl rfl ?_; simp only [push_cast, seval, *]; refine ACall.monoP (wakes12_p _) ?_; (try simp only [push_cast, seval, *]))
    | (refine does_call rfl rfl ?_; simp only [push_cast, seval, *]; refine ACall.monoP (short12_p _ (by assumption) _) ?_; (try simp only [push_cast, seval, *]))
    | (refine does_call rfl rfl ?_; simp only [push_cast, seval, *]; refine ACall.monoP (tsame_p _ _ (by assumption) (by assumption) _) ?_; (try simp only [push_cast, seval, *]))
    | (refine does_call rfl rfl ?_; simp only [push_cast, seval, *]; refine ACall.monoP (sameRecs_p _ _ (by assumption) (by assumption) _) ?_; (try simp only [push_cast, seval, *]))
    | (refine does_call rfl rfl ?_; simp only [push_cast, seval, *]; refine ACall.monoP (few12_p _ (by assumption) _) ?_; (try simp only [push_cast, seval, *]))
    | (refine does_call rfl rfl ?_; simp only [push_cast, seval, *]; refine ACall.monoP (op12_p ⟨_, _, _, _, _⟩ (by assumption) _) ?_; (try simp only [push_cast, seval, *]))
    | (refine does_call rfl rfl ?_; simp only [push_cast, seval, *]; refine ACall.monoP (tfits_p ⟨_, _, _, _, _⟩ (by assumption) _ (by assumption) _) ?_; (try simp only [push_cast, seval, *]))
    | ((first
      | refine AW_region_draw (id := 3) E0 (fun f => [].contains f) dLUQ0 dAUQ0 mixed (by kernel_rfl) ?_
      | refine AW_region E0 ?_ | refine AW_ret ?_ | refine AW_exit ?_ | refine AW_skip ?_ | unfold retQ); try simp only [push_cast, seval, *])
    | ((first | (apply AW_cond; (case hc => (simp only [push_cast, seval]; rfl))) | (apply ER_guard; (case hb => (simp only [push_cast, seval]; rfl)))); all_goals ((intro hc; first | (exfalso; simp only [push_cast, seval, *] at hc; done) | (exact absurd hc (by decide)) | ((try first | rw [Bool.not_true] at hc | rw [Bool.not_false] at hc); first | (with_reducible replace hc := tTT hc); clear hc | (with_reducible replace hc := tFF hc); clear hc | (have hp := hc; try simp only [decide_eq_true_eq, decide_eq_false_iff_not, bA, bB, bC, bD, bE, bF, bG, bH] at hp))) <;> try simp only [push_cast, seval, *]))
    | (refine Kn.go hK ?_; clear hK K)
    | refine Kn.go (by assumption) ?_
    | (intro n hn; (try simp only [upd_none2, join_none_iff, ite_none, ne_eq] at hn); (try simp only [push_cast, seval, *]))
    | (intro hc)
    | (apply ER_blk; (case hp => rfl); (case hb => (simp only [push_cast, seval]; rfl)); (case hd => (simp only [push_cast, seval]; done)); (case h => (intro hc; simp only [push_cast, seval, *]; rfl)); simp only [push_cast, seval, *])
    | fail)
      exact ⟨S, ⟨hS1, hS2, hS3⟩, by (first | trivial | (simp only [push_cast, seval, *]; done)), by simp only [tbB]; (repeat' (first | exact Heap.le_refl _ | refine hle_upd2 ?_ _ _ | (refine Heap.le_new ?_ ?_; rotate_left 1; focus (first | assumption | (simp only [upd_none2, upd_get, ne_eq, push_cast, seval, *]; done) | (simp [upd_get, *]; done)))))⟩
    subst h0
    obtain ⟨f1, f2, Q, hQ, j0, j1⟩ := unhid hsh rfl
    have hD1 := tOk_len2 (fitsT_iff.1 f1).1
    have hfD := unhid hfa D1 (by omega)
    rw [f1] at hfD
    obtain ⟨J, hJ⟩ : ∃ J : Nat → List KC, J = fun j => if j = 0 then [] else if j = 1 then Q 0 else D1 := ⟨_, rfl⟩
    have hJ0 : J 0 = [] := by rw [hJ]; rfl
    have hJ2 : J 2 = D1 := by rw [hJ]; rfl
    have hJl : ∀ j : Nat, j < 2 → (J j).length ≤ 300 := fun j hj => by
      have h01 : j = 0 ∨ j = 1 := by omega
      rcases h01 with rfl | rfl
      · rw [hJ0]; simp
      · have := (hQ 0 (by omega)).2.2
        rw [hJ]; show (Q 0).length ≤ 300; omega
    have hJj : ∀ j : Nat, j < 2 → joinD (J j) (Q j) = (J (j + 1), 0) := fun j hj => by
      have h01 : j = 0 ∨ j = 1 := by omega
      rcases h01 with rfl | rfl
      · rw [hJ0, j0, hJ]; rfl
      · rw [hJ2, ← j1, hJ]; rfl
    have hs1 := tsame_p D1 D1 (by unfold maxLen; omega) (by unfold maxLen; omega)
    have hs2 := sameRecs_p D2 D2 (by unfold maxLen; omega) (by unfold maxLen; omega)
    simp only [decide_true] at hs1 hs2
    clear hJ hsh j0 j1
    replace hJl := Lib.hid hJl
    replace hJj := Lib.hid hJj
    replace hQ := Lib.hid hQ
    simp only [tbB]
    repeat' (first
    | refine AW_seq_kn fun K hK => ?_
    | refine AW_block ?_
    | (refine does_call rfl rfl ?_; simp only [push_cast, seval, *]; refine ACall.monoP (hd _) ?_; (try simp only [push_cast, seval, *]))
    | (refine does_call rfl rfl ?_; simp only [push_cast, seval, *]; refine ACall.monoP (wakes12_p _) ?_; (try simp only [push_cast, seval, *]))
    | (refine does_call rfl rfl ?_; simp only [push_cast, seval, *]; refine ACall.monoP (short12_p _ (by assumption) _) ?_; (try simp only [push_cast, seval, *]))
    | (refine does_call rfl rfl ?_; simp only [push_cast, seval, *]; refine ACall.monoP (tsame_p _ _ (by assumption) (by assumption) _) ?_; (try simp only [push_cast, seval, *]))
    | (refine does_call rfl rfl ?_; simp only [push_cast, seval, *]; refine ACall.monoP (sameRecs_p _ _ (by assumption) (by assumption) _) ?_; (try simp only [push_cast, seval, *]))
    | (refine does_call rfl rfl ?_; simp only [push_cast, seval, *]; refine ACall.monoP (few12_p _ (by assumption) _) ?_; (try simp only [push_cast, seval, *]))
    | (refine does_call rfl rfl ?_; simp only [push_cast, seval, *]; refine ACall.monoP (op12_p ⟨_, _, _, _, _⟩ (by assumption) _) ?_; (try simp only [push_cast, seval, *]))
    | (refine does_call rfl rfl ?_; simp only [push_cast, seval, *]; refine ACall.monoP (tfits_p ⟨_, _, _, _, _⟩ (by assumption) _ (by assumption) _) ?_; (try simp only [push_cast, seval, *]))
    | ((first
      | refine AW_region_draw (id := 3) E0 (fun f => [].contains f) dLUQ0 dAUQ0 mixed (by kernel_rfl) ?_
      | refine AW_region E0 ?_ | refine AW_ret ?_ | refine AW_exit ?_ | refine AW_skip ?_ | unfold retQ); try simp only [push_cast, seval, *])
    | ((first | (apply AW_cond; (case hc => (simp only [push_cast, seval]; rfl))) | (apply ER_guard; (case hb => (simp only [push_cast, seval]; rfl)))); all_goals ((intro hc; first | (exfalso; simp only [push_cast, seval, *] at hc; done) | (exact absurd hc (by decide)) | ((try first | rw [Bool.not_true] at hc | rw [Bool.not_false] at hc); first | (with_reducible replace hc := tTT hc); clear hc | (with_reducible replace hc := tFF hc); clear hc | (have hp := hc; try simp only [decide_eq_true_eq, decide_eq_false_iff_not, bA, bB, bC, bD, bE, bF, bG, bH] at hp))) <;> try simp only [push_cast, seval, *]))
    | (refine Kn.go hK ?_; clear hK K)
    | refine Kn.go (by assumption) ?_
    | (intro n hn; (try simp only [upd_none2, join_none_iff, ite_none, ne_eq] at hn); (try simp only [push_cast, seval, *]))
    | (intro hc)
    | (apply ER_blk; (case hp => rfl); (case hb => (simp only [push_cast, seval]; rfl)); (case hd => (simp only [push_cast, seval]; done)); (case h => (intro hc; simp only [push_cast, seval, *]; rfl)); simp only [push_cast, seval, *])
    | fail)
    rename_i n9 h9 n10 h10
    generalize n = n13 at *
    obtain ⟨G, hG⟩ : ∃ G : Heap, G = upd (upd (upd Hs n7 (tbB S)) n9 (.r 54 3 1 [[.c (.int .i64 r.s), .c (.int .i64 r.k), .c (.int .i64 r.v)]])) n10 (tbB D1) := ⟨_, rfl⟩
    have k3 : G n3 = some (.r 24 5 1 [[.c (.int .i64 t2), .c (.int .i64 w2), .l 1 (l2.map i1), .c (.int .i64 A2), .c (.int .i64 B2)]]) := by rw [hG]; simp only [push_cast, seval, *]
    have k7 : G n7 = some (tbB S) := by rw [hG]; simp only [push_cast, seval, *]
    have k9 : G n9 = some (.r 54 3 1 [[.c (.int .i64 r.s), .c (.int .i64 r.k), .c (.int .i64 r.v)]]) := by rw [hG]; simp only [push_cast, seval, *]
    have k10 : G n10 = some (tbB D1) := by rw [hG]; exact upd_same _ _ _
    have hG13 : G n13 = none := by rw [hG]; simp only [upd_none2]; exact ⟨hn.1, hn.2.1, hn.2.2.1, hn.2.2.2⟩
    have hle : ∀ b c, Heap.le (upd Hs n7 (tbB b)) (upd (upd G n13 c) n7 (tbB b)) := fun b c q z hq => by
      by_cases e : q = n7
      · subst e; rw [upd_same] at hq ⊢; exact hq
      · rw [upd_ne e] at hq ⊢
        have e9 : q ≠ n9 := by rintro rfl; rw [h9.2] at hq; cases hq
        have e10 : q ≠ n10 := by rintro rfl; rw [h10.2.2] at hq; cases hq
        have e13 : q ≠ n13 := by rintro rfl; rw [hn.2.2.2] at hq; cases hq
        rw [upd_ne e13, hG, upd_ne e10, upd_ne e9, upd_ne e]; exact hq
    have hle2 : ∀ c, Heap.le Hs (upd G n13 c) := fun c q z hq => by
      have e7 : q ≠ n7 := by rintro rfl; rw [hG7] at hq; cases hq
      have e9 : q ≠ n9 := by rintro rfl; rw [h9.2] at hq; cases hq
      have e10 : q ≠ n10 := by rintro rfl; rw [h10.2.2] at hq; cases hq
      have e13 : q ≠ n13 := by rintro rfl; rw [hn.2.2.2] at hq; cases hq
      rw [upd_ne e13, hG, upd_ne e10, upd_ne e9, upd_ne e7]; exact hq
    simp only [tbB] at hG k7 k10 hle
    rw [← hG]
    clear hG h9 h10 hn hd
    have hnk3 := ne_old k3
    have hnk7 := ne_old k7
    have hnk9 := ne_old k9
    have hnk10 := ne_old k10
    have d3 : ¬ n3 = n13 := of_eq_false (hnk3 n13 hG13).1
    have d7 : ¬ n7 = n13 := of_eq_false (hnk7 n13 hG13).1
    have d9 : ¬ n9 = n13 := of_eq_false (hnk9 n13 hG13).1
    have d10 : ¬ n10 = n13 := of_eq_false (hnk10 n13 hG13).1
    replace hle := Lib.hid hle
    replace hle2 := Lib.hid hle2
    refine AW_rowIs (Iss.cons (Is.nil 4 none) Iss.nil) ?_
    refine AW_loopN 2 (fun _ => True) (fun j => [(3, .p n3 5 0 0), (7, .p n7 1 0 0), (9, .p n9 3 0 0), (10, .p n10 1 0 0), (11, .l 3 (D2.map Rec.av)), (13, .p n13 1 0 0), (31, .l 3 (C.map Rec.av)), (32, ci C.length), (33, ci k), (50, ci j)]) (fun j => upd G n13 (.r 49 1 1 [[.l 4 ((J j).map KC.av)]])) trivial ?_ ?_ ?_ ?_
    · (first | trivial | (simp only [push_cast, seval, *]; done))
    · rw [hJ0]; exact Heap.le_refl _
    · rintro j hj -
      have hjl : (j : Int) < 2 := (by omega); have hjw : IntKind.i64.wrap ((j : Int) + 1) = (j : Int) + 1 := wrap_i64 (by omega) (by omega)
      obtain ⟨q1, q2, q3⟩ := unhid hQ j hj
      have hpj := unhid hpa j
      have hp0 : (partS S j 2).2 = 0 := by
        have h := unhid hpe j hj
        rw [show (((2 : Nat) : Int)) = 2 from rfl] at h
        rw [h]
      rw [hp0] at hpj
      have hpjl := unhid hpl j
      have hmj := unhid hmi j
      have hjj := unhid hJj j hj
      have hjl := unhid hJl j hj
      have hjo := Join_pp (J j) (Q j) (by omega) (by omega)
      rw [hjj] at hjo
      generalize (partS S j 2).1 = P at *
      have hdj := unhid hda2 P (by omega)
      clear hp0 hjj hQ hpe hpa hpl hmi hJj hJl hda2 hJ0 hJ2
      generalize J j = Jj at *
      generalize J (j + 1) = Jn at *
      generalize Q j = Qj at *
      cases hb : mineS r j 2
      · rw [hb] at hmj
        obtain rfl := q2 hb
        clear q1 q2 hb hdj
        repeat' (first
    | refine AW_seq_kn fun K hK => ?_
    | refine AW_block ?_
    | (refine does_call rfl rfl ?_; simp only [push_cast, seval, *]; refine ACall.monoP (hpj _) ?_; (try simp only [push_cast, seval, *]))
    | (refine does_call rfl rfl ?_; simp only [push_cast, seval, *]; refine ACall.monoP (hmj _) ?_; (try simp only [push_cast, seval, *]))
    | (refine does_call rfl rfl ?_; simp only [push_cast, seval, *]; refine ACall.monoP (hjo _) ?_; (try simp only [push_cast, seval, *]))
    | (refine does_call rfl rfl ?_; simp only [push_cast, seval, *]; refine ACall.monoP (wakes12_p _) ?_; (try simp only [push_cast, seval, *]))
    | (refine does_call rfl rfl ?_; simp only [push_cast, seval, *]; refine ACall.monoP (short12_p _ (by assumption) _) ?_; (try simp only [push_cast, seval, *]))
    | (refine does_call rfl rfl ?_; simp only [push_cast, seval, *]; refine ACall.monoP (tsame_p _ _ (by assumption) (by assumption) _) ?_; (try simp only [push_cast, seval, *]))
    | (refine does_call rfl rfl ?_; simp only [push_cast, seval, *]; refine ACall.monoP (sameRecs_p _ _ (by assumption) (by assumption) _) ?_; (try simp only [push_cast, seval, *]))
    | (refine does_call rfl rfl ?_; simp only [push_cast, seval, *]; refine ACall.monoP (few12_p _ (by assumption) _) ?_; (try simp only [push_cast, seval, *]))
    | (refine does_call rfl rfl ?_; simp only [push_cast, seval, *]; refine ACall.monoP (op12_p ⟨_, _, _, _, _⟩ (by assumption) _) ?_; (try simp only [push_cast, seval, *]))
    | (refine does_call rfl rfl ?_; simp only [push_cast, seval, *]; refine ACall.monoP (tfits_p ⟨_, _, _, _, _⟩ (by assumption) _ (by assumption) _) ?_; (try simp only [push_cast, seval, *]))
    | ((first
      | refine AW_region_draw (id := 3) E0 (fun f => [].contains f) dLUQ0 dAUQ0 mixed (by kernel_rfl) ?_
      | refine AW_region E0 ?_ | refine AW_ret ?_ | refine AW_exit ?_ | refine AW_skip ?_ | unfold retQ); try simp only [push_cast, seval, *])
    | ((first | (apply AW_cond; (case hc => (simp only [push_cast, seval]; rfl))) | (apply ER_guard; (case hb => (simp only [push_cast, seval]; rfl)))); all_goals ((intro hc; first | (exfalso; simp only [push_cast, seval, *] at hc; done) | (exact absurd hc (by decide)) | ((try first | rw [Bool.not_true] at hc | rw [Bool.not_false] at hc); first | (with_reducible replace hc := tTT hc); clear hc | (with_reducible replace hc := tFF hc); clear hc | (have hp := hc; try simp only [decide_eq_true_eq, decide_eq_false_iff_not, bA, bB, bC, bD, bE, bF, bG, bH] at hp))) <;> try simp only [push_cast, seval, *]))
    | (refine Kn.go hK ?_; clear hK K)
    | refine Kn.go (by assumption) ?_
    | (intro n hn; (try simp only [upd_none2, join_none_iff, ite_none, ne_eq] at hn); (try simp only [push_cast, seval, *]))
    | (intro hc)
    | (apply ER_blk; (case hp => rfl); (case hb => (simp only [push_cast, seval]; rfl)); (case hd => (simp only [push_cast, seval]; done)); (case h => (intro hc; simp only [push_cast, seval, *]; rfl)); simp only [push_cast, seval, *])
    | fail)
        exact ⟨trivial, by (first | trivial | (simp only [push_cast, seval, *]; done)), by first | rfl | trivial | (repeat' (first | exact Heap.le_refl _ | refine hle_upd2 ?_ _ _ | (refine Heap.le_new ?_ ?_; rotate_left 1; focus (first | assumption | (simp only [upd_none2, upd_get, ne_eq, push_cast, seval, *]; done) | (simp [upd_get, *]; done)))))⟩
      · rw [hb] at hmj
        rw [q1 hb] at hdj
        clear q1 q2 hb
        repeat' (first
    | refine AW_seq_kn fun K hK => ?_
    | refine AW_block ?_
    | (refine does_call rfl rfl ?_; simp only [push_cast, seval, *]; refine ACall.monoP (hpj _) ?_; (try simp only [push_cast, seval, *]))
    | (refine does_call rfl rfl ?_; simp only [push_cast, seval, *]; refine ACall.monoP (hmj _) ?_; (try simp only [push_cast, seval, *]))
    | (refine does_call rfl rfl ?_; simp only [push_cast, seval, *]; refine ACall.monoP (hdj _) ?_; (try simp only [push_cast, seval, *]))
    | (refine does_call rfl rfl ?_; simp only [push_cast, seval, *]; refine ACall.monoP (hs2 _) ?_; (try simp only [push_cast, seval, *]))
    | (refine does_call rfl rfl ?_; simp only [push_cast, seval, *]; refine ACall.monoP (hjo _) ?_; (try simp only [push_cast, seval, *]))
    | (refine does_call rfl rfl ?_; simp only [push_cast, seval, *]; refine ACall.monoP (wakes12_p _) ?_; (try simp only [push_cast, seval, *]))
    | (refine does_call rfl rfl ?_; simp only [push_cast, seval, *]; refine ACall.monoP (short12_p _ (by assumption) _) ?_; (try simp only [push_cast, seval, *]))
    | (refine does_call rfl rfl ?_; simp only [push_cast, seval, *]; refine ACall.monoP (tsame_p _ _ (by assumption) (by assumption) _) ?_; (try simp only [push_cast, seval, *]))
    | (refine does_call rfl rfl ?_; simp only [push_cast, seval, *]; refine ACall.monoP (sameRecs_p _ _ (by assumption) (by assumption) _) ?_; (try simp only [push_cast, seval, *]))
    | (refine does_call rfl rfl ?_; simp only [push_cast, seval, *]; refine ACall.monoP (few12_p _ (by assumption) _) ?_; (try simp only [push_cast, seval, *]))
    | (refine does_call rfl rfl ?_; simp only [push_cast, seval, *]; refine ACall.monoP (op12_p ⟨_, _, _, _, _⟩ (by assumption) _) ?_; (try simp only [push_cast, seval, *]))
    | (refine does_call rfl rfl ?_; simp only [push_cast, seval, *]; refine ACall.monoP (tfits_p ⟨_, _, _, _, _⟩ (by assumption) _ (by assumption) _) ?_; (try simp only [push_cast, seval, *]))
    | ((first
      | refine AW_region_draw (id := 3) E0 (fun f => [].contains f) dLUQ0 dAUQ0 mixed (by kernel_rfl) ?_
      | refine AW_region E0 ?_ | refine AW_ret ?_ | refine AW_exit ?_ | refine AW_skip ?_ | unfold retQ); try simp only [push_cast, seval, *])
    | ((first | (apply AW_cond; (case hc => (simp only [push_cast, seval]; rfl))) | (apply ER_guard; (case hb => (simp only [push_cast, seval]; rfl)))); all_goals ((intro hc; first | (exfalso; simp only [push_cast, seval, *] at hc; done) | (exact absurd hc (by decide)) | ((try first | rw [Bool.not_true] at hc | rw [Bool.not_false] at hc); first | (with_reducible replace hc := tTT hc); clear hc | (with_reducible replace hc := tFF hc); clear hc | (have hp := hc; try simp only [decide_eq_true_eq, decide_eq_false_iff_not, bA, bB, bC, bD, bE, bF, bG, bH] at hp))) <;> try simp only [push_cast, seval, *]))
    | (refine Kn.go hK ?_; clear hK K)
    | refine Kn.go (by assumption) ?_
    | (intro n hn; (try simp only [upd_none2, join_none_iff, ite_none, ne_eq] at hn); (try simp only [push_cast, seval, *]))
    | (intro hc)
    | (apply ER_blk; (case hp => rfl); (case hb => (simp only [push_cast, seval]; rfl)); (case hd => (simp only [push_cast, seval]; done)); (case h => (intro hc; simp only [push_cast, seval, *]; rfl)); simp only [push_cast, seval, *])
    | fail)
        exact ⟨trivial, by (first | trivial | (simp only [push_cast, seval, *]; done)), by first | rfl | trivial | (repeat' (first | exact Heap.le_refl _ | refine hle_upd2 ?_ _ _ | (refine Heap.le_new ?_ ?_; rotate_left 1; focus (first | assumption | (simp only [upd_none2, upd_get, ne_eq, push_cast, seval, *]; done) | (simp [upd_get, *]; done)))))⟩
    · rintro -
      rw [hJ2]
      have hD2 : D1.length ≤ 257 := by omega
      have hl2 := unhid hle D1 (.r 49 1 1 [[.l 4 (D1.map KC.av)]])
      replace hl2 := Lib.hid hl2
      clear hQ hpe hpa hpl hmi hJj hJl hda2 hJ0 hJ2
      repeat' (first
    | refine AW_seq_kn fun K hK => ?_
    | refine AW_block ?_
    | (refine does_call rfl rfl ?_; simp only [push_cast, seval, *]; refine ACall.monoP (hs1 _) ?_; (try simp only [push_cast, seval, *]))
    | (refine does_call rfl rfl ?_; simp only [push_cast, seval, *]; refine ACall.monoP (hfD _) ?_; (try simp only [push_cast, seval, *]))
    | (refine does_call rfl rfl ?_; simp only [push_cast, seval, *]; refine ACall.monoP (wakes12_p _) ?_; (try simp only [push_cast, seval, *]))
    | (refine does_call rfl rfl ?_; simp only [push_cast, seval, *]; refine ACall.monoP (short12_p _ (by assumption) _) ?_; (try simp only [push_cast, seval, *]))
    | (refine does_call rfl rfl ?_; simp only [push_cast, seval, *]; refine ACall.monoP (tsame_p _ _ (by assumption) (by assumption) _) ?_; (try simp only [push_cast, seval, *]))
    | (refine does_call rfl rfl ?_; simp only [push_cast, seval, *]; refine ACall.monoP (sameRecs_p _ _ (by assumption) (by assumption) _) ?_; (try simp only [push_cast, seval, *]))
    | (refine does_call rfl rfl ?_; simp only [push_cast, seval, *]; refine ACall.monoP (few12_p _ (by assumption) _) ?_; (try simp only [push_cast, seval, *]))
    | (refine does_call rfl rfl ?_; simp only [push_cast, seval, *]; refine ACall.monoP (op12_p ⟨_, _, _, _, _⟩ (by assumption) _) ?_; (try simp only [push_cast, seval, *]))
    | (refine does_call rfl rfl ?_; simp only [push_cast, seval, *]; refine ACall.monoP (tfits_p ⟨_, _, _, _, _⟩ (by assumption) _ (by assumption) _) ?_; (try simp only [push_cast, seval, *]))
    | ((first
      | refine AW_region_draw (id := 3) E0 (fun f => [].contains f) dLUQ0 dAUQ0 mixed (by kernel_rfl) ?_
      | refine AW_region E0 ?_ | refine AW_ret ?_ | refine AW_exit ?_ | refine AW_skip ?_ | unfold retQ); try simp only [push_cast, seval, *])
    | ((first | (apply AW_cond; (case hc => (simp only [push_cast, seval]; rfl))) | (apply ER_guard; (case hb => (simp only [push_cast, seval]; rfl)))); all_goals ((intro hc; first | (exfalso; simp only [push_cast, seval, *] at hc; done) | (exact absurd hc (by decide)) | ((try first | rw [Bool.not_true] at hc | rw [Bool.not_false] at hc); first | (with_reducible replace hc := tTT hc); clear hc | (with_reducible replace hc := tFF hc); clear hc | (have hp := hc; try simp only [decide_eq_true_eq, decide_eq_false_iff_not, bA, bB, bC, bD, bE, bF, bG, bH] at hp))) <;> try simp only [push_cast, seval, *]))
    | (refine Kn.go hK ?_; clear hK K)
    | refine Kn.go (by assumption) ?_
    | (intro n hn; (try simp only [upd_none2, join_none_iff, ite_none, ne_eq] at hn); (try simp only [push_cast, seval, *]))
    | (intro hc)
    | (apply ER_blk; (case hp => rfl); (case hb => (simp only [push_cast, seval]; rfl)); (case hd => (simp only [push_cast, seval]; done)); (case h => (intro hc; simp only [push_cast, seval, *]; rfl)); simp only [push_cast, seval, *])
    | fail)
      exact ⟨D1, ⟨f1, f2, hD2⟩, by (first | trivial | (simp only [push_cast, seval, *]; done)), by first | exact ⟨rfl, unhid hle2 _⟩ | exact unhid hl2⟩
  · rintro S hS
    repeat' (first
    | refine AW_seq_kn fun K hK => ?_
    | refine AW_block ?_
    | (refine does_call rfl rfl ?_; simp only [push_cast, seval, *]; refine ACall.monoP (wakes12_p _) ?_; (try simp only [push_cast, seval, *]))
    | (refine does_call rfl rfl ?_; simp only [push_cast, seval, *]; refine ACall.monoP (short12_p _ (by assumption) _) ?_; (try simp only [push_cast, seval, *]))
    | (refine does_call rfl rfl ?_; simp only [push_cast, seval, *]; refine ACall.monoP (tsame_p _ _ (by assumption) (by assumption) _) ?_; (try simp only [push_cast, seval, *]))
    | (refine does_call rfl rfl ?_; simp only [push_cast, seval, *]; refine ACall.monoP (sameRecs_p _ _ (by assumption) (by assumption) _) ?_; (try simp only [push_cast, seval, *]))
    | (refine does_call rfl rfl ?_; simp only [push_cast, seval, *]; refine ACall.monoP (few12_p _ (by assumption) _) ?_; (try simp only [push_cast, seval, *]))
    | (refine does_call rfl rfl ?_; simp only [push_cast, seval, *]; refine ACall.monoP (op12_p ⟨_, _, _, _, _⟩ (by assumption) _) ?_; (try simp only [push_cast, seval, *]))
    | (refine does_call rfl rfl ?_; simp only [push_cast, seval, *]; refine ACall.monoP (tfits_p ⟨_, _, _, _, _⟩ (by assumption) _ (by assumption) _) ?_; (try simp only [push_cast, seval, *]))
    | ((first
      | refine AW_region_draw (id := 3) E0 (fun f => [].contains f) dLUQ0 dAUQ0 mixed (by kernel_rfl) ?_
      | refine AW_region E0 ?_ | refine AW_ret ?_ | refine AW_exit ?_ | refine AW_skip ?_ | unfold retQ); try simp only [push_cast, seval, *])
    | ((first | (apply AW_cond; (case hc => (simp only [push_cast, seval]; rfl))) | (apply ER_guard; (case hb => (simp only [push_cast, seval]; rfl)))); all_goals ((intro hc; first | (exfalso; simp only [push_cast, seval, *] at hc; done) | (exact absurd hc (by decide)) | ((try first | rw [Bool.not_true] at hc | rw [Bool.not_false] at hc); first | (with_reducible replace hc := tTT hc); clear hc | (with_reducible replace hc := tFF hc); clear hc | (have hp := hc; try simp only [decide_eq_true_eq, decide_eq_false_iff_not, bA, bB, bC, bD, bE, bF, bG, bH] at hp))) <;> try simp only [push_cast, seval, *]))
    | (refine Kn.go hK ?_; clear hK K)
    | refine Kn.go (by assumption) ?_
    | (intro n hn; (try simp only [upd_none2, join_none_iff, ite_none, ne_eq] at hn); (try simp only [push_cast, seval, *]))
    | (intro hc)
    | (apply ER_blk; (case hp => rfl); (case hb => (simp only [push_cast, seval]; rfl)); (case hd => (simp only [push_cast, seval]; done)); (case h => (intro hc; simp only [push_cast, seval, *]; rfl)); simp only [push_cast, seval, *])
    | fail)
    exact ⟨_, _, Weak.refl _ _, rfl⟩
end Go.Proofs.Ytmkncbddjnaklaa
