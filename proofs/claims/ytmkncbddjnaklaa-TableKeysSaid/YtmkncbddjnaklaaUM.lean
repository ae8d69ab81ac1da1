/- TableKeys, walked. -/
import Derived.Test.YtmkncbddjnaklaaUF
import Derived.Test.YtmkncbddjnaklaaUG
import Derived.Test.YtmkncbddjnaklaaUM0
import Derived.Test.YtmkncbddjnaklaaTJ
import Derived.Test.YtmkncbddjnaklaaTJ2
import Derived.Test.YtmkncbddjnaklaaTK
import Derived.Test.YtmkncbddjnaklaaUD
namespace Go.Proofs.Ytmkncbddjnaklaa
open Go.RowKit
open Nat renaming reduceEqDiff → nA, reduceLT → nB, reduceLeDiff → nC, reduceAdd → nD, reduceMul → nE, reduceSub → nF, reduceBEq → nG
open Int renaming reduceToNat → iA, reduceLT → iB, reduceLE → iC, reduceEq → iD
open Bool renaming and_eq_true → bA, or_eq_true → bB, or_eq_false_iff → bC, and_eq_false_iff → bD, not_eq_true' → bE, not_eq_false' → bF, not_true → bG, not_false → bH
set_option linter.all false
set_option maxHeartbeats 4000000
attribute [local irreducible] AW Does ACall tE tS tB tZ
def dLUM0 : List En := [(0, true, []), (1, false, []), (2, false, []), (3, false, [0]), (4, false, []), (5, false, []), (6, false, []), (7, false, []), (8, false, []), (9, false, []), (10, false, []), (11, false, [])]
def dAUM0 : List (List Nat) := [[], [], [], [1, 2], [0, 1, 2, 3], [0, 1, 2, 3, 4], [0, 1, 2, 3, 4, 5], [0, 1, 2, 3, 4, 5, 6], [0, 1, 2, 3, 4, 5], [0, 1, 2, 3, 4, 5, 8], [0, 1, 2, 3, 4, 5, 6, 7, 8, 9], [0, 1, 2, 3, 4, 5, 6, 7, 8, 9, 10]]
attribute [push_cast] dLUM0
def dLUM1 : List En := [(0, false, []), (1, false, []), (2, false, []), (3, false, []), (4, false, []), (5, false, []), (6, false, []), (7, false, []), (8, false, [])]
def dAUM1 : List (List Nat) := [[], [], [0, 1], [0, 1, 2], [], [], [4, 5], [4, 5, 6], [0, 1, 2, 3, 4, 5, 6, 7]]
attribute [push_cast] dLUM1

theorem selV_take (q : Rec) {l : List Rec} {k : Nat} {r : Rec} (h : l[k]? = some r) : selV q (l.take (k + 1)) = selV q (l.take k) ++ if cmpR r q = 0 then [r.v] else [] := by
  rw [take_succ h, selV_app]
  congr 1
  by_cases hq : cmpR r q = 0 <;> simp [selV, hq]
theorem tableKeys_a (o : OpD) (ho : o.ins.length ≤ maxLen) (hA : o.A ≤ 9223372036854775807) (l : List Rec) (hl : l.length ≤ maxLen) (q : Rec) (H : Heap) :
    ACall Try.prog 9 [.g (OpD.av o), .l 3 (l.map Rec.av), .g (Rec.av q)] H fun r _ => r = .c (.bool true) := by
  have hop := op12_p o ho
  have hsl : (shO o).ins.length ≤ maxLen := by simp [shO]; unfold maxLen at *; omega
  have hsA : (shO o).A ≤ 9223372036854775807 := hA
  have hfw := few12_p l hl
  have hC1 : (l.take 41).length ≤ 41 := by simp; omega
  generalize l.take 41 = C at *
  generalize shO o = o2 at *
  have hCm : C.length ≤ maxLen := by unfold maxLen; omega
  have hru := fun args G hL => tRun_l o2 hsl hsA [] (by simp) C hCm (args := args) (G := G) hL
  have hlw := keys_law2 o2 q C
  have hRl := RunD_len40 o2 C
  have hRe := RunD_err (o := o2) (T := []) (l := C)
  have hrs := Run_p o2 zeroC (selV q C) hsl hsA
  generalize RunS o2 zeroC (selV q C) = S at *
  generalize RunD o2 [] C = R at *
  obtain ⟨⟨cn, cs⟩, got, e⟩ := S
  obtain ⟨R1, R2, R3⟩ := R
  obtain ⟨t, w, il, A, Bo⟩ := o
  obtain ⟨t2, w2, l2, A2, B2⟩ := o2
  have hge := get_p R1 (by simp only at hRl; unfold maxLen; omega) q
  simp only [OpD.av, zeroC, CellD.av, List.map_nil] at hop hru hrs
  simp only [OpD.av]
  simp only at hlw hRl hRe
  replace hru := Lib.hid hru
  replace hlw := Lib.hid hlw
  replace hRe := Lib.hid hRe
  obtain ⟨qs, qk, qv⟩ := q
  simp only [Rec.av] at hge
  simp only [Rec.av]
  clear hsl hsA ho hA
  refine ACall_of' Try.func9 rfl (Ent_of Try.func9 (by kernel_rfl) rfl) (by simp [Try.ntmps9]) ?_; simp only [Try.ntmps9, Try.results9]
  repeat' (first
    | refine AW_seq_kn fun K hK => ?_
    | refine AW_block ?_
    | (refine does_call rfl rfl ?_; simp only [push_cast, seval, *]; refine ACall.monoP (hop _) ?_; (try simp only [push_cast, seval, *]))
    | (refine does_call rfl rfl ?_; simp only [push_cast, seval, *]; refine ACall.monoP (hfw _) ?_; (try simp only [push_cast, seval, *]))
    | (refine does_call rfl rfl ?_; simp only [push_cast, seval, *]; refine ACall.monoP (sameKey_p ⟨_, _, _⟩ ⟨_, _, _⟩ _) ?_; (try simp only [push_cast, seval, *]))
    | (refine does_call rfl rfl ?_; simp only [push_cast, seval, *]; refine ACall.monoP (Run_p ⟨_, _, _, _, _⟩ ⟨_, _⟩ _ (by assumption) (by assumption) _) ?_; (try simp only [push_cast, seval, *]))
    | (refine does_call rfl rfl ?_; simp only [push_cast, seval, *]; refine ACall.monoP (wakes12_p _) ?_; (try simp only [push_cast, seval, *]))
    | (refine does_call rfl rfl ?_; simp only [push_cast, seval, *]; refine ACall.monoP (get_p _ (by assumption) ⟨_, _, _⟩ _) ?_; (try simp only [push_cast, seval, *]))
    | (refine does_call rfl rfl ?_; simp only [push_cast, seval, *]; refine ACall.monoP (few12_p _ (by assumption) _) ?_; (try simp only [push_cast, seval, *]))
    | (refine does_call rfl rfl ?_; simp only [push_cast, seval, *]; refine ACall.monoP (op12_p ⟨_, _, _, _, _⟩ (by assumption) _) ?_; (try simp only [push_cast, seval, *]))
    | ((first
      | refine AW_region_draw (id := 23) E0 (fun f => [].contains f) dLUM0 dAUM0 mixed (by kernel_rfl) ?_
      | refine AW_region_draw (id := 28) E0 (fun f => [].contains f) dLUM1 dAUM1 mixed (by kernel_rfl) ?_
      | refine AW_region E0 ?_ | refine AW_ret ?_ | refine AW_exit ?_ | refine AW_skip ?_ | unfold retQ); try simp only [push_cast, seval, *])
    | ((first | (apply AW_cond; (case hc => (simp only [push_cast, seval]; rfl))) | (apply ER_guard; (case hb => (simp only [push_cast, seval]; rfl)))); all_goals ((intro hc; first | (exfalso; simp only [push_cast, seval, *] at hc; done) | (exact absurd hc (by decide)) | ((try first | rw [Bool.not_true] at hc | rw [Bool.not_false] at hc); first | (with_reducible replace hc := tTT hc); clear hc | (with_reducible replace hc := tFF hc); clear hc | (have hp := hc; try simp only [decide_eq_true_eq, decide_eq_false_iff_not, bA, bB, bC, bD, bE, bF, bG, bH] at hp))) <;> try simp only [push_cast, seval, *]))
    | (refine Kn.go hK ?_; clear hK K)
    | refine Kn.go (by assumption) ?_
    | (intro n hn; (try simp only [upd_none2, join_none_iff, ite_none, ne_eq] at hn); (try simp only [push_cast, seval, *]))
    | (intro hc)
    | (apply ER_blk; (case hp => rfl); (case hb => (simp only [push_cast, seval]; rfl)); (case hd => (simp only [push_cast, seval]; done)); (case h => (intro hc; simp only [push_cast, seval, *]; rfl)); simp only [push_cast, seval, *])
    | fail)
  rename_i n3 h3
  generalize n = n5 at *
  refine does_call rfl rfl ?_
  simp only [push_cast, seval, *]
  refine ACall.monoP (unhid hru _ _ (show Lent _ _ _ ∧ Lent _ _ _ ∧ Lent _ _ _ ∧ True from ⟨Lent.refl _ _, Lent.g (show Lent _ _ _ ∧ True from ⟨(OwnL.nil _ 0 4).lent, trivial⟩) (by simp [AV.one]), Lent.refl _ _, trivial⟩)) ?_
  clear hru
  by_cases he : R3 = 0
  rotate_left
  · obtain ⟨rfl, rfl⟩ := unhid hRe he
    clear hRe hlw
    have heF : (R3 = 0) = False := by simp [he]
    (try simp only [push_cast, seval, *])
    repeat' (first
    | refine AW_seq_kn fun K hK => ?_
    | refine AW_block ?_
    | (refine does_call rfl rfl ?_; simp only [push_cast, seval, *]; refine ACall.monoP (sameKey_p ⟨_, _, _⟩ ⟨_, _, _⟩ _) ?_; (try simp only [push_cast, seval, *]))
    | (refine does_call rfl rfl ?_; simp only [push_cast, seval, *]; refine ACall.monoP (Run_p ⟨_, _, _, _, _⟩ ⟨_, _⟩ _ (by assumption) (by assumption) _) ?_; (try simp only [push_cast, seval, *]))
    | (refine does_call rfl rfl ?_; simp only [push_cast, seval, *]; refine ACall.monoP (wakes12_p _) ?_; (try simp only [push_cast, seval, *]))
    | (refine does_call rfl rfl ?_; simp only [push_cast, seval, *]; refine ACall.monoP (get_p _ (by assumption) ⟨_, _, _⟩ _) ?_; (try simp only [push_cast, seval, *]))
    | (refine does_call rfl rfl ?_; simp only [push_cast, seval, *]; refine ACall.monoP (few12_p _ (by assumption) _) ?_; (try simp only [push_cast, seval, *]))
    | (refine does_call rfl rfl ?_; simp only [push_cast, seval, *]; refine ACall.monoP (op12_p ⟨_, _, _, _, _⟩ (by assumption) _) ?_; (try simp only [push_cast, seval, *]))
    | ((first
      | refine AW_region_draw (id := 23) E0 (fun f => [].contains f) dLUM0 dAUM0 mixed (by kernel_rfl) ?_
      | refine AW_region_draw (id := 28) E0 (fun f => [].contains f) dLUM1 dAUM1 mixed (by kernel_rfl) ?_
      | refine AW_region E0 ?_ | refine AW_ret ?_ | refine AW_exit ?_ | refine AW_skip ?_ | unfold retQ); try simp only [push_cast, seval, *])
    | ((first | (apply AW_cond; (case hc => (simp only [push_cast, seval]; rfl))) | (apply ER_guard; (case hb => (simp only [push_cast, seval]; rfl)))); all_goals ((intro hc; first | (exfalso; simp only [push_cast, seval, *] at hc; done) | (exact absurd hc (by decide)) | ((try first | rw [Bool.not_true] at hc | rw [Bool.not_false] at hc); first | (with_reducible replace hc := tTT hc); clear hc | (with_reducible replace hc := tFF hc); clear hc | (have hp := hc; try simp only [decide_eq_true_eq, decide_eq_false_iff_not, bA, bB, bC, bD, bE, bF, bG, bH] at hp))) <;> try simp only [push_cast, seval, *]))
    | (refine Kn.go hK ?_; clear hK K)
    | refine Kn.go (by assumption) ?_
    | (intro n hn; (try simp only [upd_none2, join_none_iff, ite_none, ne_eq] at hn); (try simp only [push_cast, seval, *]))
    | (intro hc)
    | (apply ER_blk; (case hp => rfl); (case hb => (simp only [push_cast, seval]; rfl)); (case hd => (simp only [push_cast, seval]; done)); (case h => (intro hc; simp only [push_cast, seval, *]; rfl)); simp only [push_cast, seval, *])
    | fail)
    exact ⟨_, _, Weak.refl _ _, rfl⟩
  subst he
  obtain ⟨hC40, hle1, hle2⟩ := unhid hlw rfl
  clear hlw hRe
  replace hle1 := Lib.hid hle1
  replace hle2 := Lib.hid hle2
  (try simp only [push_cast, seval, *])
  repeat' (first
    | refine AW_seq_kn fun K hK => ?_
    | refine AW_block ?_
    | (refine does_call rfl rfl ?_; simp only [push_cast, seval, *]; refine ACall.monoP (sameKey_p ⟨_, _, _⟩ ⟨_, _, _⟩ _) ?_; (try simp only [push_cast, seval, *]))
    | (refine does_call rfl rfl ?_; simp only [push_cast, seval, *]; refine ACall.monoP (Run_p ⟨_, _, _, _, _⟩ ⟨_, _⟩ _ (by assumption) (by assumption) _) ?_; (try simp only [push_cast, seval, *]))
    | (refine does_call rfl rfl ?_; simp only [push_cast, seval, *]; refine ACall.monoP (wakes12_p _) ?_; (try simp only [push_cast, seval, *]))
    | (refine does_call rfl rfl ?_; simp only [push_cast, seval, *]; refine ACall.monoP (get_p _ (by assumption) ⟨_, _, _⟩ _) ?_; (try simp only [push_cast, seval, *]))
    | (refine does_call rfl rfl ?_; simp only [push_cast, seval, *]; refine ACall.monoP (few12_p _ (by assumption) _) ?_; (try simp only [push_cast, seval, *]))
    | (refine does_call rfl rfl ?_; simp only [push_cast, seval, *]; refine ACall.monoP (op12_p ⟨_, _, _, _, _⟩ (by assumption) _) ?_; (try simp only [push_cast, seval, *]))
    | ((first
      | refine AW_region_draw (id := 23) E0 (fun f => [].contains f) dLUM0 dAUM0 mixed (by kernel_rfl) ?_
      | refine AW_region_draw (id := 28) E0 (fun f => [].contains f) dLUM1 dAUM1 mixed (by kernel_rfl) ?_
      | refine AW_region E0 ?_ | refine AW_ret ?_ | refine AW_exit ?_ | refine AW_skip ?_ | unfold retQ); try simp only [push_cast, seval, *])
    | ((first | (apply AW_cond; (case hc => (simp only [push_cast, seval]; rfl))) | (apply ER_guard; (case hb => (simp only [push_cast, seval]; rfl)))); all_goals ((intro hc; first | (exfalso; simp only [push_cast, seval, *] at hc; done) | (exact absurd hc (by decide)) | ((try first | rw [Bool.not_true] at hc | rw [Bool.not_false] at hc); first | (with_reducible replace hc := tTT hc); clear hc | (with_reducible replace hc := tFF hc); clear hc | (have hp := hc; try simp only [decide_eq_true_eq, decide_eq_false_iff_not, bA, bB, bC, bD, bE, bF, bG, bH] at hp))) <;> try simp only [push_cast, seval, *]))
    | (refine Kn.go hK ?_; clear hK K)
    | refine Kn.go (by assumption) ?_
    | (intro n hn; (try simp only [upd_none2, join_none_iff, ite_none, ne_eq] at hn); (try simp only [push_cast, seval, *]))
    | (intro hc)
    | (apply ER_blk; (case hp => rfl); (case hb => (simp only [push_cast, seval]; rfl)); (case hd => (simp only [push_cast, seval]; done)); (case h => (intro hc; simp only [push_cast, seval, *]; rfl)); simp only [push_cast, seval, *])
    | fail)
  generalize n = n7 at *
  obtain ⟨Hs, hHs⟩ : ∃ Hs : Heap, Hs = upd (upd (upd (upd H n3 (.r 24 5 1 [[.c (.int .i64 t), .c (.int .i64 w), .l 1 (il.map i1), .c (.int .i64 A), .c (.int .i64 Bo)]])) n5 (.r 54 3 1 [[.c (.int .i64 qs), .c (.int .i64 qk), .c (.int .i64 qv)]])) n3 (.r 24 5 1 [[.c (.int .i64 t2), .c (.int .i64 w2), .l 1 (l2.map i1), .c (.int .i64 A2), .c (.int .i64 B2)]])) n7 (.r 49 1 1 [[.l 4 (R1.map KC.av)]]) := ⟨_, rfl⟩
  have g3 : Hs n3 = some (.r 24 5 1 [[.c (.int .i64 t2), .c (.int .i64 w2), .l 1 (l2.map i1), .c (.int .i64 A2), .c (.int .i64 B2)]]) := by rw [hHs]; simp only [push_cast, seval, *]
  have g5 : Hs n5 = some (.r 54 3 1 [[.c (.int .i64 qs), .c (.int .i64 qk), .c (.int .i64 qv)]]) := by rw [hHs]; simp only [push_cast, seval, *]
  have g7 : Hs n7 = some (.r 49 1 1 [[.l 4 (R1.map KC.av)]]) := by rw [hHs]; exact upd_same _ _ _
  rw [← hHs]
  clear hHs h3 hn hop hfw
  have hno3 := ne_old g3
  have hno5 := ne_old g5
  have hno7 := ne_old g7
  refine AW_loopX (σ := AV × Heap) C.length (fun k w => OwnL w.2 w.1 2 1 ((selV ⟨qs, qk, qv⟩ (C.take k)).map i1) Hs) (fun k s => [(1, .l 3 (C.map Rec.av)), (3, .p n3 5 0 0), (5, .p n5 3 0 0), (7, .p n7 1 0 0), (8, .l 3 (R2.map Rec.av)), (10, s.1), (11, .c (.slice none 0 0)), (44, .l 3 (C.map Rec.av)), (45, ci C.length), (46, ci k)]) (fun _ w => w.2) (.c (.slice none 0 0), Hs) (OwnL.nil _ _ _) ?_ ?_ ?_ ?_
  · (first | trivial | (simp only [push_cast, seval, *]; done))
  · exact Heap.le_refl _
  · rintro k ⟨x, B⟩ hk hown
    simp only at hown
    have hy := List.getElem?_eq_getElem (l := C) hk; generalize C[k] = y at hy; have hym := List.mem_of_getElem? hy; have hkl : (k : Int) < C.length := (by omega); have hkw : IntKind.i64.wrap ((k : Int) + 1) = (k : Int) + 1 := wrap_i64 (by omega) (by omega)
    have hyl := selV_take ⟨qs, qk, qv⟩ hy
    have hsn := selV_len ⟨qs, qk, qv⟩ (C.take k)
    have hsk := sameKey_p y ⟨qs, qk, qv⟩
    rw [hyl]
    generalize selV ⟨qs, qk, qv⟩ (C.take k) = V at *
    have hVl : V.length ≤ 41 := by rw [List.length_take] at hsn; omega
    have k5 := hown.get g5
    have hcs := hown.cs
    have hne5 := ne_old k5
    by_cases hq : cmpR y ⟨qs, qk, qv⟩ = 0
    · rw [decide_eq_true hq] at hsk
      rw [if_pos hq]
      obtain ⟨ys, yk, yv⟩ := y
      simp only [Rec.av] at hsk
      have hi1 : i1 yv = [.c (.int .i64 yv)] := rfl
      replace hown := Lib.hid hown
      clear hq hyl hsn
      repeat' (first
    | refine AW_seq_kn fun K hK => ?_
    | refine AW_block ?_
    | (refine does_call rfl rfl ?_; simp only [push_cast, seval, *]; refine ACall.monoP (hsk _) ?_; (try simp only [push_cast, seval, *]))
    | (refine does_call rfl rfl ?_; simp only [push_cast, seval, *]; refine ACall.monoP (sameKey_p ⟨_, _, _⟩ ⟨_, _, _⟩ _) ?_; (try simp only [push_cast, seval, *]))
    | (refine does_call rfl rfl ?_; simp only [push_cast, seval, *]; refine ACall.monoP (Run_p ⟨_, _, _, _, _⟩ ⟨_, _⟩ _ (by assumption) (by assumption) _) ?_; (try simp only [push_cast, seval, *]))
    | (refine does_call rfl rfl ?_; simp only [push_cast, seval, *]; refine ACall.monoP (wakes12_p _) ?_; (try simp only [push_cast, seval, *]))
    | (refine does_call rfl rfl ?_; simp only [push_cast, seval, *]; refine ACall.monoP (get_p _ (by assumption) ⟨_, _, _⟩ _) ?_; (try simp only [push_cast, seval, *]))
    | (refine does_call rfl rfl ?_; simp only [push_cast, seval, *]; refine ACall.monoP (few12_p _ (by assumption) _) ?_; (try simp only [push_cast, seval, *]))
    | (refine does_call rfl rfl ?_; simp only [push_cast, seval, *]; refine ACall.monoP (op12_p ⟨_, _, _, _, _⟩ (by assumption) _) ?_; (try simp only [push_cast, seval, *]))
    | ((first
      | refine AW_region_draw (id := 23) E0 (fun f => [].contains f) dLUM0 dAUM0 mixed (by kernel_rfl) ?_
      | refine AW_region_draw (id := 28) E0 (fun f => [].contains f) dLUM1 dAUM1 mixed (by kernel_rfl) ?_
      | refine AW_region E0 ?_ | refine AW_ret ?_ | refine AW_exit ?_ | refine AW_skip ?_ | unfold retQ); try simp only [push_cast, seval, *])
    | ((first | (apply AW_cond; (case hc => (simp only [push_cast, seval]; rfl))) | (apply ER_guard; (case hb => (simp only [push_cast, seval]; rfl)))); all_goals ((intro hc; first | (exfalso; simp only [push_cast, seval, *] at hc; done) | (exact absurd hc (by decide)) | ((try first | rw [Bool.not_true] at hc | rw [Bool.not_false] at hc); first | (with_reducible replace hc := tTT hc); clear hc | (with_reducible replace hc := tFF hc); clear hc | (have hp := hc; try simp only [decide_eq_true_eq, decide_eq_false_iff_not, bA, bB, bC, bD, bE, bF, bG, bH] at hp))) <;> try simp only [push_cast, seval, *]))
    | (refine Kn.go hK ?_; clear hK K)
    | refine Kn.go (by assumption) ?_
    | (intro n hn; (try simp only [upd_none2, join_none_iff, ite_none, ne_eq] at hn); (try simp only [push_cast, seval, *]))
    | (intro hc)
    | (apply ER_blk; (case hp => rfl); (case hb => (simp only [push_cast, seval]; rfl)); (case hd => (simp only [push_cast, seval]; done)); (case h => (intro hc; simp only [push_cast, seval, *]; rfl)); simp only [push_cast, seval, *])
    | fail)
      rename_i n13 h13
      have own1 := (unhid hown).new h13 (.r 54 3 1 [[.c (.int .i64 ys), .c (.int .i64 yk), .c (.int .i64 yv)]])
      have hB13 : Hs n13 = none := (unhid hown).none h13
      refine does_appN rfl rfl rfl rfl rfl own1 (by simp only [upd_none2]; exact hn) tE29 tS2 tB2 tZ2 rfl (by decide) ?_ ?_ ?_
      · simp only [List.length_map, maxLen]; omega
      · simp only [List.length_map]; omega
      intro x' H' hown'
      have hcs' := hown'.cs
      obtain ⟨H2, l1, l2⟩ := hown'.cut (le_upd_new hB13)
      rw [← hi1, ← List.map_singleton (f := i1), ← List.map_append] at l2
      clear own1 hown hown' k5 hcs
      replace l1 := Lib.hid l1
      replace l2 := Lib.hid l2
      (try simp only [push_cast, seval, *])
      repeat' (first
    | refine AW_seq_kn fun K hK => ?_
    | refine AW_block ?_
    | (refine does_call rfl rfl ?_; simp only [push_cast, seval, *]; refine ACall.monoP (sameKey_p ⟨_, _, _⟩ ⟨_, _, _⟩ _) ?_; (try simp only [push_cast, seval, *]))
    | (refine does_call rfl rfl ?_; simp only [push_cast, seval, *]; refine ACall.monoP (Run_p ⟨_, _, _, _, _⟩ ⟨_, _⟩ _ (by assumption) (by assumption) _) ?_; (try simp only [push_cast, seval, *]))
    | (refine does_call rfl rfl ?_; simp only [push_cast, seval, *]; refine ACall.monoP (wakes12_p _) ?_; (try simp only [push_cast, seval, *]))
    | (refine does_call rfl rfl ?_; simp only [push_cast, seval, *]; refine ACall.monoP (get_p _ (by assumption) ⟨_, _, _⟩ _) ?_; (try simp only [push_cast, seval, *]))
    | (refine does_call rfl rfl ?_; simp only [push_cast, seval, *]; refine ACall.monoP (few12_p _ (by assumption) _) ?_; (try simp only [push_cast, seval, *]))
    | (refine does_call rfl rfl ?_; simp only [push_cast, seval, *]; refine ACall.monoP (op12_p ⟨_, _, _, _, _⟩ (by assumption) _) ?_; (try simp only [push_cast, seval, *]))
    | ((first
      | refine AW_region_draw (id := 23) E0 (fun f => [].contains f) dLUM0 dAUM0 mixed (by kernel_rfl) ?_
      | refine AW_region_draw (id := 28) E0 (fun f => [].contains f) dLUM1 dAUM1 mixed (by kernel_rfl) ?_
      | refine AW_region E0 ?_ | refine AW_ret ?_ | refine AW_exit ?_ | refine AW_skip ?_ | unfold retQ); try simp only [push_cast, seval, *])
    | ((first | (apply AW_cond; (case hc => (simp only [push_cast, seval]; rfl))) | (apply ER_guard; (case hb => (simp only [push_cast, seval]; rfl)))); all_goals ((intro hc; first | (exfalso; simp only [push_cast, seval, *] at hc; done) | (exact absurd hc (by decide)) | ((try first | rw [Bool.not_true] at hc | rw [Bool.not_false] at hc); first | (with_reducible replace hc := tTT hc); clear hc | (with_reducible replace hc := tFF hc); clear hc | (have hp := hc; try simp only [decide_eq_true_eq, decide_eq_false_iff_not, bA, bB, bC, bD, bE, bF, bG, bH] at hp))) <;> try simp only [push_cast, seval, *]))
    | (refine Kn.go hK ?_; clear hK K)
    | refine Kn.go (by assumption) ?_
    | (intro n hn; (try simp only [upd_none2, join_none_iff, ite_none, ne_eq] at hn); (try simp only [push_cast, seval, *]))
    | (intro hc)
    | (apply ER_blk; (case hp => rfl); (case hb => (simp only [push_cast, seval]; rfl)); (case hd => (simp only [push_cast, seval]; done)); (case h => (intro hc; simp only [push_cast, seval, *]; rfl)); simp only [push_cast, seval, *])
    | fail)
      exact ⟨(x', H2), unhid l2, by (first | trivial | (simp only [push_cast, seval, *]; done)), unhid l1⟩
    · rw [decide_eq_false hq] at hsk
      rw [if_neg hq, List.append_nil]
      obtain ⟨ys, yk, yv⟩ := y
      simp only [Rec.av] at hsk
      replace hown := Lib.hid hown
      clear hq hyl hsn
      repeat' (first
    | refine AW_seq_kn fun K hK => ?_
    | refine AW_block ?_
    | (refine does_call rfl rfl ?_; simp only [push_cast, seval, *]; refine ACall.monoP (hsk _) ?_; (try simp only [push_cast, seval, *]))
    | (refine does_call rfl rfl ?_; simp only [push_cast, seval, *]; refine ACall.monoP (sameKey_p ⟨_, _, _⟩ ⟨_, _, _⟩ _) ?_; (try simp only [push_cast, seval, *]))
    | (refine does_call rfl rfl ?_; simp only [push_cast, seval, *]; refine ACall.monoP (Run_p ⟨_, _, _, _, _⟩ ⟨_, _⟩ _ (by assumption) (by assumption) _) ?_; (try simp only [push_cast, seval, *]))
    | (refine does_call rfl rfl ?_; simp only [push_cast, seval, *]; refine ACall.monoP (wakes12_p _) ?_; (try simp only [push_cast, seval, *]))
    | (refine does_call rfl rfl ?_; simp only [push_cast, seval, *]; refine ACall.monoP (get_p _ (by assumption) ⟨_, _, _⟩ _) ?_; (try simp only [push_cast, seval, *]))
    | (refine does_call rfl rfl ?_; simp only [push_cast, seval, *]; refine ACall.monoP (few12_p _ (by assumption) _) ?_; (try simp only [push_cast, seval, *]))
    | (refine does_call rfl rfl ?_; simp only [push_cast, seval, *]; refine ACall.monoP (op12_p ⟨_, _, _, _, _⟩ (by assumption) _) ?_; (try simp only [push_cast, seval, *]))
    | ((first
      | refine AW_region_draw (id := 23) E0 (fun f => [].contains f) dLUM0 dAUM0 mixed (by kernel_rfl) ?_
      | refine AW_region_draw (id := 28) E0 (fun f => [].contains f) dLUM1 dAUM1 mixed (by kernel_rfl) ?_
      | refine AW_region E0 ?_ | refine AW_ret ?_ | refine AW_exit ?_ | refine AW_skip ?_ | unfold retQ); try simp only [push_cast, seval, *])
    | ((first | (apply AW_cond; (case hc => (simp only [push_cast, seval]; rfl))) | (apply ER_guard; (case hb => (simp only [push_cast, seval]; rfl)))); all_goals ((intro hc; first | (exfalso; simp only [push_cast, seval, *] at hc; done) | (exact absurd hc (by decide)) | ((try first | rw [Bool.not_true] at hc | rw [Bool.not_false] at hc); first | (with_reducible replace hc := tTT hc); clear hc | (with_reducible replace hc := tFF hc); clear hc | (have hp := hc; try simp only [decide_eq_true_eq, decide_eq_false_iff_not, bA, bB, bC, bD, bE, bF, bG, bH] at hp))) <;> try simp only [push_cast, seval, *]))
    | (refine Kn.go hK ?_; clear hK K)
    | refine Kn.go (by assumption) ?_
    | (intro n hn; (try simp only [upd_none2, join_none_iff, ite_none, ne_eq] at hn); (try simp only [push_cast, seval, *]))
    | (intro hc)
    | (apply ER_blk; (case hp => rfl); (case hb => (simp only [push_cast, seval]; rfl)); (case hd => (simp only [push_cast, seval]; done)); (case h => (intro hc; simp only [push_cast, seval, *]; rfl)); simp only [push_cast, seval, *])
    | fail)
      exact ⟨(x, B), unhid hown, by (first | trivial | (simp only [push_cast, seval, *]; done)), le_upd_new hn⟩
  rintro ⟨x, B⟩ hown
  rw [List.take_length] at hown
  simp only at hown
  refine AW_own hown [(1, .l 3 (C.map Rec.av)), (3, .p n3 5 0 0), (5, .p n5 3 0 0), (7, .p n7 1 0 0), (8, .l 3 (R2.map Rec.av)), (10, .l 1 ((selV ⟨qs, qk, qv⟩ C).map i1)), (11, .c (.slice none 0 0)), (44, .l 3 (C.map Rec.av)), (45, ci C.length), (46, ci C.length)] (by ((try simp only [SlO, push_cast, seval, *]); done)) (Heap.le_refl _) ?_
  clear hown
  repeat' (first
    | refine AW_seq_kn fun K hK => ?_
    | refine AW_block ?_
    | (refine does_call rfl rfl ?_; simp only [push_cast, seval, *]; refine ACall.monoP (sameKey_p ⟨_, _, _⟩ ⟨_, _, _⟩ _) ?_; (try simp only [push_cast, seval, *]))
    | (refine does_call rfl rfl ?_; simp only [push_cast, seval, *]; refine ACall.monoP (Run_p ⟨_, _, _, _, _⟩ ⟨_, _⟩ _ (by assumption) (by assumption) _) ?_; (try simp only [push_cast, seval, *]))
    | (refine does_call rfl rfl ?_; simp only [push_cast, seval, *]; refine ACall.monoP (wakes12_p _) ?_; (try simp only [push_cast, seval, *]))
    | (refine does_call rfl rfl ?_; simp only [push_cast, seval, *]; refine ACall.monoP (get_p _ (by assumption) ⟨_, _, _⟩ _) ?_; (try simp only [push_cast, seval, *]))
    | (refine does_call rfl rfl ?_; simp only [push_cast, seval, *]; refine ACall.monoP (few12_p _ (by assumption) _) ?_; (try simp only [push_cast, seval, *]))
    | (refine does_call rfl rfl ?_; simp only [push_cast, seval, *]; refine ACall.monoP (op12_p ⟨_, _, _, _, _⟩ (by assumption) _) ?_; (try simp only [push_cast, seval, *]))
    | ((first
      | refine AW_region_draw (id := 23) E0 (fun f => [].contains f) dLUM0 dAUM0 mixed (by kernel_rfl) ?_
      | refine AW_region_draw (id := 28) E0 (fun f => [].contains f) dLUM1 dAUM1 mixed (by kernel_rfl) ?_
      | refine AW_region E0 ?_ | refine AW_ret ?_ | refine AW_exit ?_ | refine AW_skip ?_ | unfold retQ); try simp only [push_cast, seval, *])
    | ((first | (apply AW_cond; (case hc => (simp only [push_cast, seval]; rfl))) | (apply ER_guard; (case hb => (simp only [push_cast, seval]; rfl)))); all_goals ((intro hc; first | (exfalso; simp only [push_cast, seval, *] at hc; done) | (exact absurd hc (by decide)) | ((try first | rw [Bool.not_true] at hc | rw [Bool.not_false] at hc); first | (with_reducible replace hc := tTT hc); clear hc | (with_reducible replace hc := tFF hc); clear hc | (have hp := hc; try simp only [decide_eq_true_eq, decide_eq_false_iff_not, bA, bB, bC, bD, bE, bF, bG, bH] at hp))) <;> try simp only [push_cast, seval, *]))
    | (refine Kn.go hK ?_; clear hK K)
    | refine Kn.go (by assumption) ?_
    | (intro n hn; (try simp only [upd_none2, join_none_iff, ite_none, ne_eq] at hn); (try simp only [push_cast, seval, *]))
    | (intro hc)
    | (apply ER_blk; (case hp => rfl); (case hb => (simp only [push_cast, seval]; rfl)); (case hd => (simp only [push_cast, seval]; done)); (case h => (intro hc; simp only [push_cast, seval, *]; rfl)); simp only [push_cast, seval, *])
    | fail)
  refine AW_loopX (σ := AV × Heap) R2.length (fun k w => OwnL w.2 w.1 2 1 ((selV ⟨qs, qk, qv⟩ (R2.take k)).map i1) Hs) (fun k s => [(1, .l 3 (C.map Rec.av)), (3, .p n3 5 0 0), (5, .p n5 3 0 0), (7, .p n7 1 0 0), (10, .l 1 ((selV ⟨qs, qk, qv⟩ C).map i1)), (11, s.1), (59, .l 3 (R2.map Rec.av)), (60, ci R2.length), (61, ci k)]) (fun _ w => w.2) (.c (.slice none 0 0), Hs) (OwnL.nil _ _ _) ?_ ?_ ?_ ?_
  · (first | trivial | (simp only [push_cast, seval, *]; done))
  · exact Heap.le_refl _
  · rintro k ⟨x, B⟩ hk hown
    simp only at hown
    have hy := List.getElem?_eq_getElem (l := R2) hk; generalize R2[k] = y at hy; have hym := List.mem_of_getElem? hy; have hkl : (k : Int) < R2.length := (by omega); have hkw : IntKind.i64.wrap ((k : Int) + 1) = (k : Int) + 1 := wrap_i64 (by omega) (by omega)
    have hyl := selV_take ⟨qs, qk, qv⟩ hy
    have hsn := selV_len ⟨qs, qk, qv⟩ (R2.take k)
    have hsk := sameKey_p y ⟨qs, qk, qv⟩
    rw [hyl]
    generalize selV ⟨qs, qk, qv⟩ (R2.take k) = V at *
    have hVl : V.length ≤ 41 := by rw [List.length_take] at hsn; omega
    have k5 := hown.get g5
    have hcs := hown.cs
    have hne5 := ne_old k5
    by_cases hq : cmpR y ⟨qs, qk, qv⟩ = 0
    · rw [decide_eq_true hq] at hsk
      rw [if_pos hq]
      obtain ⟨ys, yk, yv⟩ := y
      simp only [Rec.av] at hsk
      have hi1 : i1 yv = [.c (.int .i64 yv)] := rfl
      replace hown := Lib.hid hown
      clear hq hyl hsn
      repeat' (first
    | refine AW_seq_kn fun K hK => ?_
    | refine AW_block ?_
    | (refine does_call rfl rfl ?_; simp only [push_cast, seval, *]; refine ACall.monoP (hsk _) ?_; (try simp only [push_cast, seval, *]))
    | (refine does_call rfl rfl ?_; simp only [push_cast, seval, *]; refine ACall.monoP (sameKey_p ⟨_, _, _⟩ ⟨_, _, _⟩ _) ?_; (try simp only [push_cast, seval, *]))
    | (refine does_call rfl rfl ?_; simp only [push_cast, seval, *]; refine ACall.monoP (Run_p ⟨_, _, _, _, _⟩ ⟨_, _⟩ _ (by assumption) (by assumption) _) ?_; (try simp only [push_cast, seval, *]))
    | (refine does_call rfl rfl ?_; simp only [push_cast, seval, *]; refine ACall.monoP (wakes12_p _) ?_; (try simp only [push_cast, seval, *]))
    | (refine does_call rfl rfl ?_; simp only [push_cast, seval, *]; refine ACall.monoP (get_p _ (by assumption) ⟨_, _, _⟩ _) ?_; (try simp only [push_cast, seval, *]))
    | (refine does_call rfl rfl ?_; simp only [push_cast, seval, *]; refine ACall.monoP (few12_p _ (by assumption) _) ?_; (try simp only [push_cast, seval, *]))
    | (refine does_call rfl rfl ?_; simp only [push_cast, seval, *]; refine ACall.monoP (op12_p ⟨_, _, _, _, _⟩ (by assumption) _) ?_; (try simp only [push_cast, seval, *]))
    | ((first
      | refine AW_region_draw (id := 23) E0 (fun f => [].contains f) dLUM0 dAUM0 mixed (by kernel_rfl) ?_
      | refine AW_region_draw (id := 28) E0 (fun f => [].contains f) dLUM1 dAUM1 mixed (by kernel_rfl) ?_
      | refine AW_region E0 ?_ | refine AW_ret ?_ | refine AW_exit ?_ | refine AW_skip ?_ | unfold retQ); try simp only [push_cast, seval, *])
    | ((first | (apply AW_cond; (case hc => (simp only [push_cast, seval]; rfl))) | (apply ER_guard; (case hb => (simp only [push_cast, seval]; rfl)))); all_goals ((intro hc; first | (exfalso; simp only [push_cast, seval, *] at hc; done) | (exact absurd hc (by decide)) | ((try first | rw [Bool.not_true] at hc | rw [Bool.not_false] at hc); first | (with_reducible replace hc := tTT hc); clear hc | (with_reducible replace hc := tFF hc); clear hc | (have hp := hc; try simp only [decide_eq_true_eq, decide_eq_false_iff_not, bA, bB, bC, bD, bE, bF, bG, bH] at hp))) <;> try simp only [push_cast, seval, *]))
    | (refine Kn.go hK ?_; clear hK K)
    | refine Kn.go (by assumption) ?_
    | (intro n hn; (try simp only [upd_none2, join_none_iff, ite_none, ne_eq] at hn); (try simp only [push_cast, seval, *]))
    | (intro hc)
    | (apply ER_blk; (case hp => rfl); (case hb => (simp only [push_cast, seval]; rfl)); (case hd => (simp only [push_cast, seval]; done)); (case h => (intro hc; simp only [push_cast, seval, *]; rfl)); simp only [push_cast, seval, *])
    | fail)
      rename_i n13 h13
      have own1 := (unhid hown).new h13 (.r 54 3 1 [[.c (.int .i64 ys), .c (.int .i64 yk), .c (.int .i64 yv)]])
      have hB13 : Hs n13 = none := (unhid hown).none h13
      refine does_appN rfl rfl rfl rfl rfl own1 (by simp only [upd_none2]; exact hn) tE29 tS2 tB2 tZ2 rfl (by decide) ?_ ?_ ?_
      · simp only [List.length_map, maxLen]; omega
      · simp only [List.length_map]; omega
      intro x' H' hown'
      have hcs' := hown'.cs
      obtain ⟨H2, l1, l2⟩ := hown'.cut (le_upd_new hB13)
      rw [← hi1, ← List.map_singleton (f := i1), ← List.map_append] at l2
      clear own1 hown hown' k5 hcs
      replace l1 := Lib.hid l1
      replace l2 := Lib.hid l2
      (try simp only [push_cast, seval, *])
      repeat' (first
    | refine AW_seq_kn fun K hK => ?_
    | refine AW_block ?_
    | (refine does_call rfl rfl ?_; simp only [push_cast, seval, *]; refine ACall.monoP (sameKey_p ⟨_, _, _⟩ ⟨_, _, _⟩ _) ?_; (try simp only [push_cast, seval, *]))
    | (refine does_call rfl rfl ?_; simp only [push_cast, seval, *]; refine ACall.monoP (Run_p ⟨_, _, _, _, _⟩ ⟨_, _⟩ _ (by assumption) (by assumption) _) ?_; (try simp only [push_cast, seval, *]))
    | (refine does_call rfl rfl ?_; simp only [push_cast, seval, *]; refine ACall.monoP (wakes12_p _) ?_; (try simp only [push_cast, seval, *]))
    | (refine does_call rfl rfl ?_; simp only [push_cast, seval, *]; refine ACall.monoP (get_p _ (by assumption) ⟨_, _, _⟩ _) ?_; (try simp only [push_cast, seval, *]))
    | (refine does_call rfl rfl ?_; simp only [push_cast, seval, *]; refine ACall.monoP (few12_p _ (by assumption) _) ?_; (try simp only [push_cast, seval, *]))
    | (refine does_call rfl rfl ?_; simp only [push_cast, seval, *]; refine ACall.monoP (op12_p ⟨_, _, _, _, _⟩ (by assumption) _) ?_; (try simp only [push_cast, seval, *]))
    | ((first
      | refine AW_region_draw (id := 23) E0 (fun f => [].contains f) dLUM0 dAUM0 mixed (by kernel_rfl) ?_
      | refine AW_region_draw (id := 28) E0 (fun f => [].contains f) dLUM1 dAUM1 mixed (by kernel_rfl) ?_
      | refine AW_region E0 ?_ | refine AW_ret ?_ | refine AW_exit ?_ | refine AW_skip ?_ | unfold retQ); try simp only [push_cast, seval, *])
    | ((first | (apply AW_cond; (case hc => (simp only [push_cast, seval]; rfl))) | (apply ER_guard; (case hb => (simp only [push_cast, seval]; rfl)))); all_goals ((intro hc; first | (exfalso; simp only [push_cast, seval, *] at hc; done) | (exact absurd hc (by decide)) | ((try first | rw [Bool.not_true] at hc | rw [Bool.not_false] at hc); first | (with_reducible replace hc := tTT hc); clear hc | (with_reducible replace hc := tFF hc); clear hc | (have hp := hc; try simp only [decide_eq_true_eq, decide_eq_false_iff_not, bA, bB, bC, bD, bE, bF, bG, bH] at hp))) <;> try simp only [push_cast, seval, *]))
    | (refine Kn.go hK ?_; clear hK K)
    | refine Kn.go (by assumption) ?_
    | (intro n hn; (try simp only [upd_none2, join_none_iff, ite_none, ne_eq] at hn); (try simp only [push_cast, seval, *]))
    | (intro hc)
    | (apply ER_blk; (case hp => rfl); (case hb => (simp only [push_cast, seval]; rfl)); (case hd => (simp only [push_cast, seval]; done)); (case h => (intro hc; simp only [push_cast, seval, *]; rfl)); simp only [push_cast, seval, *])
    | fail)
      exact ⟨(x', H2), unhid l2, by (first | trivial | (simp only [push_cast, seval, *]; done)), unhid l1⟩
    · rw [decide_eq_false hq] at hsk
      rw [if_neg hq, List.append_nil]
      obtain ⟨ys, yk, yv⟩ := y
      simp only [Rec.av] at hsk
      replace hown := Lib.hid hown
      clear hq hyl hsn
      repeat' (first
    | refine AW_seq_kn fun K hK => ?_
    | refine AW_block ?_
    | (refine does_call rfl rfl ?_; simp only [push_cast, seval, *]; refine ACall.monoP (hsk _) ?_; (try simp only [push_cast, seval, *]))
    | (refine does_call rfl rfl ?_; simp only [push_cast, seval, *]; refine ACall.monoP (sameKey_p ⟨_, _, _⟩ ⟨_, _, _⟩ _) ?_; (try simp only [push_cast, seval, *]))
    | (refine does_call rfl rfl ?_; simp only [push_cast, seval, *]; refine ACall.monoP (Run_p ⟨_, _, _, _, _⟩ ⟨_, _⟩ _ (by assumption) (by assumption) _) ?_; (try simp only [push_cast, seval, *]))
    | (refine does_call rfl rfl ?_; simp only [push_cast, seval, *]; refine ACall.monoP (wakes12_p _) ?_; (try simp only [push_cast, seval, *]))
    | (refine does_call rfl rfl ?_; simp only [push_cast, seval, *]; refine ACall.monoP (get_p _ (by assumption) ⟨_, _, _⟩ _) ?_; (try simp only [push_cast, seval, *]))
    | (refine does_call rfl rfl ?_; simp only [push_cast, seval, *]; refine ACall.monoP (few12_p _ (by assumption) _) ?_; (try simp only [push_cast, seval, *]))
    | (refine does_call rfl rfl ?_; simp only [push_cast, seval, *]; refine ACall.monoP (op12_p ⟨_, _, _, _, _⟩ (by assumption) _) ?_; (try simp only [push_cast, seval, *]))
    | ((first
      | refine AW_region_draw (id := 23) E0 (fun f => [].contains f) dLUM0 dAUM0 mixed (by kernel_rfl) ?_
      | refine AW_region_draw (id := 28) E0 (fun f => [].contains f) dLUM1 dAUM1 mixed (by kernel_rfl) ?_
      | refine AW_region E0 ?_ | refine AW_ret ?_ | refine AW_exit ?_ | refine AW_skip ?_ | unfold retQ); try simp only [push_cast, seval, *])
    | ((first | (apply AW_cond; (case hc => (simp only [push_cast, seval]; rfl))) | (apply ER_guard; (case hb => (simp only [push_cast, seval]; rfl)))); all_goals ((intro hc; first | (exfalso; simp only [push_cast, seval, *] at hc; done) | (exact absurd hc (by decide)) | ((try first | rw [Bool.not_true] at hc | rw [Bool.not_false] at hc); first | (with_reducible replace hc := tTT hc); clear hc | (with_reducible replace hc := tFF hc); clear hc | (have hp := hc; try simp only [decide_eq_true_eq, decide_eq_false_iff_not, bA, bB, bC, bD, bE, bF, bG, bH] at hp))) <;> try simp only [push_cast, seval, *]))
    | (refine Kn.go hK ?_; clear hK K)
    | refine Kn.go (by assumption) ?_
    | (intro n hn; (try simp only [upd_none2, join_none_iff, ite_none, ne_eq] at hn); (try simp only [push_cast, seval, *]))
    | (intro hc)
    | (apply ER_blk; (case hp => rfl); (case hb => (simp only [push_cast, seval]; rfl)); (case hd => (simp only [push_cast, seval]; done)); (case h => (intro hc; simp only [push_cast, seval, *]; rfl)); simp only [push_cast, seval, *])
    | fail)
      exact ⟨(x, B), unhid hown, by (first | trivial | (simp only [push_cast, seval, *]; done)), le_upd_new hn⟩
  rintro ⟨x, B⟩ hown
  rw [List.take_length] at hown
  simp only at hown
  refine AW_own hown [(1, .l 3 (C.map Rec.av)), (3, .p n3 5 0 0), (5, .p n5 3 0 0), (7, .p n7 1 0 0), (10, .l 1 ((selV ⟨qs, qk, qv⟩ C).map i1)), (11, .l 1 ((selV ⟨qs, qk, qv⟩ R2).map i1)), (59, .l 3 (R2.map Rec.av)), (60, ci R2.length), (61, ci R2.length)] (by ((try simp only [SlO, push_cast, seval, *]); done)) (Heap.le_refl _) ?_
  clear hown
  have hWl := selV_len ⟨qs, qk, qv⟩ R2
  by_cases he : e = 0
  rotate_left
  · have hCe := unhid hle1 he
    clear hle2 hle1
    have heF : (e = 0) = False := by simp [he]
    have hC0 : (C.length : Int) = 0 := by rw [hCe]; rfl
    clear hCe
    repeat' (first
    | refine AW_seq_kn fun K hK => ?_
    | refine AW_block ?_
    | (refine does_call rfl rfl ?_; simp only [push_cast, seval, *]; refine ACall.monoP (hrs _) ?_; (try simp only [push_cast, seval, *]))
    | (refine does_call rfl rfl ?_; simp only [push_cast, seval, *]; refine ACall.monoP (sameKey_p ⟨_, _, _⟩ ⟨_, _, _⟩ _) ?_; (try simp only [push_cast, seval, *]))
    | (refine does_call rfl rfl ?_; simp only [push_cast, seval, *]; refine ACall.monoP (Run_p ⟨_, _, _, _, _⟩ ⟨_, _⟩ _ (by assumption) (by assumption) _) ?_; (try simp only [push_cast, seval, *]))
    | (refine does_call rfl rfl ?_; simp only [push_cast, seval, *]; refine ACall.monoP (wakes12_p _) ?_; (try simp only [push_cast, seval, *]))
    | (refine does_call rfl rfl ?_; simp only [push_cast, seval, *]; refine ACall.monoP (get_p _ (by assumption) ⟨_, _, _⟩ _) ?_; (try simp only [push_cast, seval, *]))
    | (refine does_call rfl rfl ?_; simp only [push_cast, seval, *]; refine ACall.monoP (few12_p _ (by assumption) _) ?_; (try simp only [push_cast, seval, *]))
    | (refine does_call rfl rfl ?_; simp only [push_cast, seval, *]; refine ACall.monoP (op12_p ⟨_, _, _, _, _⟩ (by assumption) _) ?_; (try simp only [push_cast, seval, *]))
    | ((first
      | refine AW_region_draw (id := 23) E0 (fun f => [].contains f) dLUM0 dAUM0 mixed (by kernel_rfl) ?_
      | refine AW_region_draw (id := 28) E0 (fun f => [].contains f) dLUM1 dAUM1 mixed (by kernel_rfl) ?_
      | refine AW_region E0 ?_ | refine AW_ret ?_ | refine AW_exit ?_ | refine AW_skip ?_ | unfold retQ); try simp only [push_cast, seval, *])
    | ((first | (apply AW_cond; (case hc => (simp only [push_cast, seval]; rfl))) | (apply ER_guard; (case hb => (simp only [push_cast, seval]; rfl)))); all_goals ((intro hc; first | (exfalso; simp only [push_cast, seval, *] at hc; done) | (exact absurd hc (by decide)) | ((try first | rw [Bool.not_true] at hc | rw [Bool.not_false] at hc); first | (with_reducible replace hc := tTT hc); clear hc | (with_reducible replace hc := tFF hc); clear hc | (have hp := hc; try simp only [decide_eq_true_eq, decide_eq_false_iff_not, bA, bB, bC, bD, bE, bF, bG, bH] at hp))) <;> try simp only [push_cast, seval, *]))
    | (refine Kn.go hK ?_; clear hK K)
    | refine Kn.go (by assumption) ?_
    | (intro n hn; (try simp only [upd_none2, join_none_iff, ite_none, ne_eq] at hn); (try simp only [push_cast, seval, *]))
    | (intro hc)
    | (apply ER_blk; (case hp => rfl); (case hb => (simp only [push_cast, seval]; rfl)); (case hd => (simp only [push_cast, seval]; done)); (case h => (intro hc; simp only [push_cast, seval, *]; rfl)); simp only [push_cast, seval, *])
    | fail)
    exact ⟨_, _, Weak.refl _ _, rfl⟩
  subst he
  obtain ⟨hcc, hgg⟩ := unhid hle2 rfl
  clear hle1 hle2
  rw [← hcc] at hge
  rw [← hgg] at hWl
  subst hgg
  simp only [CellD.av] at hge
  generalize selV ⟨qs, qk, qv⟩ R2 = W at *
  generalize selV ⟨qs, qk, qv⟩ C = VC at *
  clear hcc
  repeat' (first
    | refine AW_seq_kn fun K hK => ?_
    | refine AW_block ?_
    | (refine does_call rfl rfl ?_; simp only [push_cast, seval, *]; refine ACall.monoP (hrs _) ?_; (try simp only [push_cast, seval, *]))
    | (refine does_call rfl rfl ?_; simp only [push_cast, seval, *]; refine ACall.monoP (hge _) ?_; (try simp only [push_cast, seval, *]))
    | (refine does_call rfl rfl ?_; simp only [push_cast, seval, *]; refine ACall.monoP (sameKey_p ⟨_, _, _⟩ ⟨_, _, _⟩ _) ?_; (try simp only [push_cast, seval, *]))
    | (refine does_call rfl rfl ?_; simp only [push_cast, seval, *]; refine ACall.monoP (Run_p ⟨_, _, _, _, _⟩ ⟨_, _⟩ _ (by assumption) (by assumption) _) ?_; (try simp only [push_cast, seval, *]))
    | (refine does_call rfl rfl ?_; simp only [push_cast, seval, *]; refine ACall.monoP (wakes12_p _) ?_; (try simp only [push_cast, seval, *]))
    | (refine does_call rfl rfl ?_; simp only [push_cast, seval, *]; refine ACall.monoP (get_p _ (by assumption) ⟨_, _, _⟩ _) ?_; (try simp only [push_cast, seval, *]))
    | (refine does_call rfl rfl ?_; simp only [push_cast, seval, *]; refine ACall.monoP (few12_p _ (by assumption) _) ?_; (try simp only [push_cast, seval, *]))
    | (refine does_call rfl rfl ?_; simp only [push_cast, seval, *]; refine ACall.monoP (op12_p ⟨_, _, _, _, _⟩ (by assumption) _) ?_; (try simp only [push_cast, seval, *]))
    | ((first
      | refine AW_region_draw (id := 23) E0 (fun f => [].contains f) dLUM0 dAUM0 mixed (by kernel_rfl) ?_
      | refine AW_region_draw (id := 28) E0 (fun f => [].contains f) dLUM1 dAUM1 mixed (by kernel_rfl) ?_
      | refine AW_region E0 ?_ | refine AW_ret ?_ | refine AW_exit ?_ | refine AW_skip ?_ | unfold retQ); try simp only [push_cast, seval, *])
    | ((first | (apply AW_cond; (case hc => (simp only [push_cast, seval]; rfl))) | (apply ER_guard; (case hb => (simp only [push_cast, seval]; rfl)))); all_goals ((intro hc; first | (exfalso; simp only [push_cast, seval, *] at hc; done) | (exact absurd hc (by decide)) | ((try first | rw [Bool.not_true] at hc | rw [Bool.not_false] at hc); first | (with_reducible replace hc := tTT hc); clear hc | (with_reducible replace hc := tFF hc); clear hc | (have hp := hc; try simp only [decide_eq_true_eq, decide_eq_false_iff_not, bA, bB, bC, bD, bE, bF, bG, bH] at hp))) <;> try simp only [push_cast, seval, *]))
    | (refine Kn.go hK ?_; clear hK K)
    | refine Kn.go (by assumption) ?_
    | (intro n hn; (try simp only [upd_none2, join_none_iff, ite_none, ne_eq] at hn); (try simp only [push_cast, seval, *]))
    | (intro hc)
    | (apply ER_blk; (case hp => rfl); (case hb => (simp only [push_cast, seval]; rfl)); (case hd => (simp only [push_cast, seval]; done)); (case h => (intro hc; simp only [push_cast, seval, *]; rfl)); simp only [push_cast, seval, *])
    | fail)
  refine AW_loopN W.length (fun _ => True) (fun k => [(11, .l 1 (W.map i1)), (17, .l 1 (W.map i1)), (100, ci W.length), (101, ci k)]) (fun _ => Hs) trivial ?_ ?_ ?_ ?_
  · (first | trivial | (simp only [push_cast, seval, *]; done))
  · exact le_upd_new hn
  · rintro k hk -
    have hz := List.getElem?_eq_getElem (l := W) hk; generalize W[k] = z at hz; have hzm := List.mem_of_getElem? hz; have hkl : (k : Int) < W.length := (by omega); have hkw : IntKind.i64.wrap ((k : Int) + 1) = (k : Int) + 1 := wrap_i64 (by omega) (by omega)
    have hi1 : i1 z = [.c (.int .i64 z)] := rfl
    repeat' (first
    | refine AW_seq_kn fun K hK => ?_
    | refine AW_block ?_
    | (refine does_call rfl rfl ?_; simp only [push_cast, seval, *]; refine ACall.monoP (sameKey_p ⟨_, _, _⟩ ⟨_, _, _⟩ _) ?_; (try simp only [push_cast, seval, *]))
    | (refine does_call rfl rfl ?_; simp only [push_cast, seval, *]; refine ACall.monoP (Run_p ⟨_, _, _, _, _⟩ ⟨_, _⟩ _ (by assumption) (by assumption) _) ?_; (try simp only [push_cast, seval, *]))
    | (refine does_call rfl rfl ?_; simp only [push_cast, seval, *]; refine ACall.monoP (wakes12_p _) ?_; (try simp only [push_cast, seval, *]))
    | (refine does_call rfl rfl ?_; simp only [push_cast, seval, *]; refine ACall.monoP (get_p _ (by assumption) ⟨_, _, _⟩ _) ?_; (try simp only [push_cast, seval, *]))
    | (refine does_call rfl rfl ?_; simp only [push_cast, seval, *]; refine ACall.monoP (few12_p _ (by assumption) _) ?_; (try simp only [push_cast, seval, *]))
    | (refine does_call rfl rfl ?_; simp only [push_cast, seval, *]; refine ACall.monoP (op12_p ⟨_, _, _, _, _⟩ (by assumption) _) ?_; (try simp only [push_cast, seval, *]))
    | ((first
      | refine AW_region_draw (id := 23) E0 (fun f => [].contains f) dLUM0 dAUM0 mixed (by kernel_rfl) ?_
      | refine AW_region_draw (id := 28) E0 (fun f => [].contains f) dLUM1 dAUM1 mixed (by kernel_rfl) ?_
      | refine AW_region E0 ?_ | refine AW_ret ?_ | refine AW_exit ?_ | refine AW_skip ?_ | unfold retQ); try simp only [push_cast, seval, *])
    | ((first | (apply AW_cond; (case hc => (simp only [push_cast, seval]; rfl))) | (apply ER_guard; (case hb => (simp only [push_cast, seval]; rfl)))); all_goals ((intro hc; first | (exfalso; simp only [push_cast, seval, *] at hc; done) | (exact absurd hc (by decide)) | ((try first | rw [Bool.not_true] at hc | rw [Bool.not_false] at hc); first | (with_reducible replace hc := tTT hc); clear hc | (with_reducible replace hc := tFF hc); clear hc | (have hp := hc; try simp only [decide_eq_true_eq, decide_eq_false_iff_not, bA, bB, bC, bD, bE, bF, bG, bH] at hp))) <;> try simp only [push_cast, seval, *]))
    | (refine Kn.go hK ?_; clear hK K)
    | refine Kn.go (by assumption) ?_
    | (intro n hn; (try simp only [upd_none2, join_none_iff, ite_none, ne_eq] at hn); (try simp only [push_cast, seval, *]))
    | (intro hc)
    | (apply ER_blk; (case hp => rfl); (case hb => (simp only [push_cast, seval]; rfl)); (case hd => (simp only [push_cast, seval]; done)); (case h => (intro hc; simp only [push_cast, seval, *]; rfl)); simp only [push_cast, seval, *])
    | fail)
    exact ⟨trivial, by (first | trivial | (simp only [push_cast, seval, *]; done)), by first | trivial | (repeat' (first | exact Heap.le_refl _ | refine hle_upd2 ?_ _ _ | (refine Heap.le_new ?_ ?_; rotate_left 1; focus (first | assumption | (simp only [upd_none2, upd_get, ne_eq, push_cast, seval, *]; done) | (simp [upd_get, *]; done)))))⟩
  · rintro -
    repeat' (first
    | refine AW_seq_kn fun K hK => ?_
    | refine AW_block ?_
    | (refine does_call rfl rfl ?_; simp only [push_cast, seval, *]; refine ACall.monoP (sameKey_p ⟨_, _, _⟩ ⟨_, _, _⟩ _) ?_; (try simp only [push_cast, seval, *]))
    | (refine does_call rfl rfl ?_; simp only [push_cast, seval, *]; refine ACall.monoP (Run_p ⟨_, _, _, _, _⟩ ⟨_, _⟩ _ (by assumption) (by assumption) _) ?_; (try simp only [push_cast, seval, *]))
    | (refine does_call rfl rfl ?_; simp only [push_cast, seval, *]; refine ACall.monoP (wakes12_p _) ?_; (try simp only [push_cast, seval, *]))
    | (refine does_call rfl rfl ?_; simp only [push_cast, seval, *]; refine ACall.monoP (get_p _ (by assumption) ⟨_, _, _⟩ _) ?_; (try simp only [push_cast, seval, *]))
    | (refine does_call rfl rfl ?_; simp only [push_cast, seval, *]; refine ACall.monoP (few12_p _ (by assumption) _) ?_; (try simp only [push_cast, seval, *]))
    | (refine does_call rfl rfl ?_; simp only [push_cast, seval, *]; refine ACall.monoP (op12_p ⟨_, _, _, _, _⟩ (by assumption) _) ?_; (try simp only [push_cast, seval, *]))
    | ((first
      | refine AW_region_draw (id := 23) E0 (fun f => [].contains f) dLUM0 dAUM0 mixed (by kernel_rfl) ?_
      | refine AW_region_draw (id := 28) E0 (fun f => [].contains f) dLUM1 dAUM1 mixed (by kernel_rfl) ?_
      | refine AW_region E0 ?_ | refine AW_ret ?_ | refine AW_exit ?_ | refine AW_skip ?_ | unfold retQ); try simp only [push_cast, seval, *])
    | ((first | (apply AW_cond; (case hc => (simp only [push_cast, seval]; rfl))) | (apply ER_guard; (case hb => (simp only [push_cast, seval]; rfl)))); all_goals ((intro hc; first | (exfalso; simp only [push_cast, seval, *] at hc; done) | (exact absurd hc (by decide)) | ((try first | rw [Bool.not_true] at hc | rw [Bool.not_false] at hc); first | (with_reducible replace hc := tTT hc); clear hc | (with_reducible replace hc := tFF hc); clear hc | (have hp := hc; try simp only [decide_eq_true_eq, decide_eq_false_iff_not, bA, bB, bC, bD, bE, bF, bG, bH] at hp))) <;> try simp only [push_cast, seval, *]))
    | (refine Kn.go hK ?_; clear hK K)
    | refine Kn.go (by assumption) ?_
    | (intro n hn; (try simp only [upd_none2, join_none_iff, ite_none, ne_eq] at hn); (try simp only [push_cast, seval, *]))
    | (intro hc)
    | (apply ER_blk; (case hp => rfl); (case hb => (simp only [push_cast, seval]; rfl)); (case hd => (simp only [push_cast, seval]; done)); (case h => (intro hc; simp only [push_cast, seval, *]; rfl)); simp only [push_cast, seval, *])
    | fail)
    exact ⟨_, _, Weak.refl _ _, rfl⟩
end Go.Proofs.Ytmkncbddjnaklaa
