/- Walks: put, as the document says it. -/
import Derived.Test.YtmkncbddjnaklaaTE
namespace Go.Proofs.Ytmkncbddjnaklaa
open Go.RowKit
open Nat renaming reduceEqDiff → nA, reduceLT → nB, reduceLeDiff → nC, reduceAdd → nD, reduceMul → nE, reduceSub → nF, reduceBEq → nG
open Int renaming reduceToNat → iA, reduceLT → iB, reduceLE → iC, reduceEq → iD
open Bool renaming and_eq_true → bA, or_eq_true → bB, or_eq_false_iff → bC, and_eq_false_iff → bD, not_eq_true' → bE, not_eq_false' → bF, not_true → bG, not_false → bH
set_option linter.all false
set_option maxHeartbeats 4000000
attribute [local irreducible] AW Does ACall tE tS tB tZ
def dLTG0 : List En := [(0, false, []), (1, false, []), (2, false, []), (3, false, []), (5, true, []), (4, false, [5]), (6, false, []), (7, false, []), (8, false, [])]
def dATG0 : List (List Nat) := [[], [0], [0, 1], [0, 1, 2], [0, 1, 2, 3], [0, 1, 2], [0, 1, 2, 3, 4, 5], [0, 1, 2, 3, 4, 5, 6], [0, 1, 2, 3, 4, 5, 6, 7]]
attribute [push_cast] dLTG0

/-- what stands behind a beginning -/
structure RP (l : List KC) (r : Rec) (c : CellD) (k : Nat) (d : Bool) (out : List KC) : Prop where
  e : rpGo r c (decide (c = zeroC)) l = out ++ rpGo r c d (l.drop k)
  n : out.length ≤ 2 * k
theorem RP.zero (l : List KC) (r : Rec) (c : CellD) : RP l r c 0 (decide (c = zeroC)) [] := ⟨by rw [List.drop_zero]; rfl, by simp⟩
theorem RP.next {l : List KC} {r : Rec} {c : CellD} {k : Nat} {d : Bool} {out : List KC} {x : KC} (h : RP l r c k d out) (hx : l[k]? = some x) :
    RP l r c (k + 1) (d || decide (0 < cmpR (keyS x) r)) (out ++ (if (!d && decide (0 < cmpR (keyS x) r)) = true then [newC r c] else []) ++ (if cmpR (keyS x) r = 0 then [] else [x])) :=
  ⟨by rw [h.e, drop_get hx]; simp only [rpGo, List.append_assoc], by have := h.n; simp only [List.length_append]; split <;> split <;> simp <;> omega⟩
theorem RP.done {l : List KC} {r : Rec} {c : CellD} {d : Bool} {out : List KC} (h : RP l r c l.length d out) : rpGo r c (decide (c = zeroC)) l = out ++ if d = true then [] else [newC r c] := by
  rw [h.e, List.drop_length]; rfl
theorem cut_le {G : Heap} {m7 n : Nat} {a b c k : Blk} (hn : G n = none) : Heap.le (upd G m7 c) (upd (upd (upd (upd G m7 a) n k) m7 b) m7 c) := fun q z hq => by
  by_cases e : q = m7
  · subst e; rw [upd_same] at hq ⊢; exact hq
  · rw [upd_ne e] at hq ⊢
    have c1 : q ≠ n := by rintro rfl; rw [hn] at hq; cases hq
    rw [upd_ne e, upd_ne c1, upd_ne e]; exact hq
theorem cut1_le {G : Heap} {m7 n : Nat} {a c k : Blk} (hn : G n = none) : Heap.le (upd G m7 c) (upd (upd (upd G m7 a) n k) m7 c) := fun q z hq => by
  by_cases e : q = m7
  · subst e; rw [upd_same] at hq ⊢; exact hq
  · rw [upd_ne e] at hq ⊢
    have c1 : q ≠ n := by rintro rfl; rw [hn] at hq; cases hq
    rw [upd_ne c1, upd_ne e]; exact hq
theorem upd_swap2 {H : Heap} {n m : Nat} {a b : Blk} (h : ¬ m = n) : upd (upd H n a) m b = upd (upd H m b) n a := by
  funext q
  simp only [upd]
  by_cases c1 : q = m
  · have : ¬ q = n := fun e => h (c1.symm.trans e)
    simp [c1, h]
  · simp [c1]
theorem rput_p (l : List KC) (hl : l.length ≤ 100000) (hr : Rise l) (r : Rec) (c : CellD) : Pure Try.prog 72 [.g [.l 4 (l.map KC.av)], .g (Rec.av r), .g (CellD.av c)] (.g [.l 4 ((setS l r c).map KC.av)]) := by
  intro H
  rw [setS_rp r c l hr]
  have h0 := RP.zero l r c
  have hnew : KC.av (newC r c) = [.c (.int .i64 r.s), .c (.int .i64 r.k), .c (.int .i64 c.count), .c (.int .i64 c.sum)] := rfl
  obtain ⟨R, hR⟩ : ∃ R, R = rpGo r c (decide (c = zeroC)) l := ⟨_, rfl⟩
  rw [← hR]
  have hz3 : ((c.count = 0) = False ∧ (c.sum = 0) = False) ∨ ((c.count = 0) = False ∧ (c.sum = 0) = True) ∨ ((c.count = 0) = True ∧ (c.sum = 0) = False) ∨ ((c.count = 0) = True ∧ (c.sum = 0) = True) := by
    simp only [eq_iff_iff, iff_true, iff_false]; omega
  have hzd : decide (c = zeroC) = (decide (c.count = 0) && decide (c.sum = 0)) := by obtain ⟨cn, cs⟩ := c; exact zeroC_eq cn cs
  generalize hD : decide (c = zeroC) = D at *
  obtain ⟨s, k0, v⟩ := r
  obtain ⟨cn, cs⟩ := c
  simp only at hz3 hzd
  simp only [Rec.av, CellD.av]
  replace h0 := Lib.hid h0
  replace hR := Lib.hid hR
  replace hnew := Lib.hid hnew
  replace hD := Lib.hid hD
  clear hr hz3
  replace hzd := hzd.symm
  refine ACall_of' Try.func72 rfl (Ent_of Try.func72 (by kernel_rfl) rfl) (by simp [Try.ntmps72]) ?_; simp only [Try.ntmps72, Try.results72]
  repeat' (first
    | refine AW_seq_kn fun K hK => ?_
    | refine AW_block ?_
    | (refine does_call rfl rfl ?_; simp only [push_cast, seval, *]; refine ACall.monoP (compare5_p ⟨_, _, _⟩ ⟨_, _, _⟩ _) ?_; (try simp only [push_cast, seval, *]))
    | (refine does_call rfl rfl ?_; simp only [push_cast, seval, *]; refine ACall.monoP (rkey_p ⟨_, _, _, _⟩ _) ?_; (try simp only [push_cast, seval, *]))
    | ((first
      | refine AW_region_draw (id := 7) E0 (fun f => [].contains f) dLTG0 dATG0 mixed (by kernel_rfl) ?_
      | refine AW_region_draw (id := 9) E0 (fun f => [].contains f) [(0, false, []), (2, true, []), (1, false, [2]), (3, false, []), (4, false, [])] [[], [0], [], [0, 1, 2], [0, 1, 2, 3]] mixed (by kernel_rfl) ?_
      | refine AW_region E0 ?_ | refine AW_ret ?_ | refine AW_exit ?_ | refine AW_skip ?_ | unfold retQ); try simp only [push_cast, seval, *])
    | ((first | (apply AW_cond; (case hc => (simp only [push_cast, seval]; rfl))) | (apply ER_guard; (case hb => (simp only [push_cast, seval]; rfl)))); all_goals ((intro hc; first | (exfalso; simp only [push_cast, seval, *] at hc; done) | (exact absurd hc (by decide)) | ((try first | rw [Bool.not_true] at hc | rw [Bool.not_false] at hc); first | (with_reducible replace hc := tTT hc); clear hc | (with_reducible replace hc := tFF hc); clear hc | (have hp := hc; try simp only [decide_eq_true_eq, decide_eq_false_iff_not, bA, bB, bC, bD, bE, bF, bG, bH] at hp))) <;> try simp only [push_cast, seval, *]))
    | (refine Kn.go hK ?_; clear hK K)
    | refine Kn.go (by assumption) ?_
    | (intro n hn; (try simp only [upd_none2, join_none_iff, ite_none, ne_eq] at hn); (try simp only [push_cast, seval, *]))
    | (intro hc)
    | (apply ER_blk; (case hp => rfl); (case hb => (simp only [push_cast, seval]; rfl)); (case hd => (simp only [push_cast, seval]; done)); (case h => (intro hc; simp only [push_cast, seval, *]; rfl)); simp only [push_cast, seval, *])
    | fail)
  rename_i n3 h3 n4 h4 n5 h5 n6 h6 m7 h7
  generalize n = m9 at *
  obtain ⟨Gs, hGs⟩ : ∃ Gs : Heap, Gs = upd (upd (upd (upd (upd H n3 (.r 49 1 1 [[.l 4 (l.map KC.av)]])) n4 (.r 54 3 1 [[.c (.int .i64 s), .c (.int .i64 k0), .c (.int .i64 v)]])) n5 (.r 26 2 1 [[.c (.int .i64 cn), .c (.int .i64 cs)]])) n6 (.r 49 1 1 [[.c (.slice none 0 0)]])) m9 (.r 80 4 1 [[.c (.int .i64 s), .c (.int .i64 k0), .c (.int .i64 cn), .c (.int .i64 cs)]]) := ⟨_, rfl⟩
  have g4 : Gs n4 = some (.r 54 3 1 [[.c (.int .i64 s), .c (.int .i64 k0), .c (.int .i64 v)]]) := by rw [hGs]; simp only [push_cast, seval, *]
  have g6 : Gs n6 = some (.r 49 1 1 [[.c (.slice none 0 0)]]) := by rw [hGs]; simp only [push_cast, seval, *]
  have g9 : Gs m9 = some (.r 80 4 1 [[.c (.int .i64 s), .c (.int .i64 k0), .c (.int .i64 cn), .c (.int .i64 cs)]]) := by rw [hGs]; exact upd_same _ _ _
  have c47 : ¬ n4 = m7 := h7.2.2.1.2
  have c67 : ¬ n6 = m7 := h7.1.2
  have c97 : ¬ m9 = m7 := hn.1.1
  have hG7 : Gs m7 = none := by rw [hGs]; simp only [upd_none2]; simp only [push_cast, seval, *]
  have hH6 : H n6 = none := h6.2.2.2
  have hle : Heap.le H Gs := by rw [hGs]; (repeat' (first | exact Heap.le_refl _ | refine hle_upd2 ?_ _ _ | (refine Heap.le_new ?_ ?_; rotate_left 1; focus (first | assumption | (simp only [upd_none2, upd_get, ne_eq, push_cast, seval, *]; done) | (simp [upd_get, *]; done)))))
  have hmem : upd (upd (upd (upd (upd (upd H n3 (.r 49 1 1 [[.l 4 (l.map KC.av)]])) n4 (.r 54 3 1 [[.c (.int .i64 s), .c (.int .i64 k0), .c (.int .i64 v)]])) n5 (.r 26 2 1 [[.c (.int .i64 cn), .c (.int .i64 cs)]])) n6 (.r 49 1 1 [[.c (.slice none 0 0)]])) m7 (.r 49 1 1 [[.c (.slice none 0 0)]])) m9 (.r 80 4 1 [[.c (.int .i64 s), .c (.int .i64 k0), .c (.int .i64 cn), .c (.int .i64 cs)]]) = upd Gs m7 (bxT (.c (.slice none 0 0))) := by rw [hGs]; exact upd_swap2 c97
  rw [hmem]
  clear hmem hGs h3 h4 h5 h6 h7 hn
  replace hle := Lib.hid hle
  refine AW_loopX (σ := Bool × List KC × AV × Heap) l.length (fun k w => RP l ⟨s, k0, v⟩ ⟨cn, cs⟩ k w.1 w.2.1 ∧ OwnL w.2.2.2 w.2.2.1 80 4 (w.2.1.map KC.av) (upd Gs m7 (bxT w.2.2.1))) (fun k w => [(4, .p n4 3 0 0), (6, .p n6 1 0 0), (7, .p m7 1 0 0), (8, .c (.bool w.1)), (9, .p m9 4 0 0), (22, .l 4 (l.map KC.av)), (23, ci l.length), (24, ci k)]) (fun _ w => w.2.2.2) (D, [], .c (.slice none 0 0), upd Gs m7 (bxT (.c (.slice none 0 0)))) ⟨by rw [← unhid hD]; exact RP.zero _ _ _, OwnL.nil _ _ _⟩ ?_ ?_ ?_ ?_
  · (first | trivial | (simp only [push_cast, seval, *]; done))
  · exact Heap.le_refl _
  · rintro k ⟨d, out, x, B⟩ hk ⟨hrp, hown⟩
    simp only at hrp hown
    clear hzd
    have hy := List.getElem?_eq_getElem (l := l) hk; generalize l[k] = y at hy; have hym := List.mem_of_getElem? hy; have hkl : (k : Int) < l.length := (by omega); have hkw : IntKind.i64.wrap ((k : Int) + 1) = (k : Int) + 1 := wrap_i64 (by omega) (by omega)
    have hty : List.take 4 (KC.av y) = KC.av y := rfl
    have hnx := hrp.next hy
    have hon := hrp.n
    have hky := rkey_p y
    have hcm := compare5_p (keyS y) ⟨s, k0, v⟩
    have k4 := hown.get (m := n4) (by rw [upd_ne c47]; exact g4)
    have k7 := hown.get (m := m7) (upd_same _ _ _)
    have k9 := hown.get (m := m9) (by rw [upd_ne c97]; exact g9)
    have hcs := hown.cs
    have hne4 := ne_old k4
    have hne7 := ne_old k7
    have hne9 := ne_old k9
    have hc3 : ((0 < cmpR (keyS y) ⟨s, k0, v⟩) = True ∧ (cmpR (keyS y) ⟨s, k0, v⟩ = 0) = False) ∨ ((0 < cmpR (keyS y) ⟨s, k0, v⟩) = False ∧ (cmpR (keyS y) ⟨s, k0, v⟩ = 0) = True) ∨ ((0 < cmpR (keyS y) ⟨s, k0, v⟩) = False ∧ (cmpR (keyS y) ⟨s, k0, v⟩ = 0) = False) := by
      simp only [eq_iff_iff, iff_true, iff_false]; omega
    generalize cmpR (keyS y) ⟨s, k0, v⟩ = C at *
    obtain ⟨ys, yk, yn, yt⟩ := y
    simp only [KC.av, Rec.av, keyS] at hky hcm
    clear hrp h0
    replace hown := Lib.hid hown
    rcases hc3 with ⟨p1, p2⟩ | ⟨p1, p2⟩ | ⟨p1, p2⟩
    · cases d
      case' true =>
        simp only [p1, p2, decide_true, Bool.not_true, Bool.false_and, Bool.true_or, Bool.false_eq_true, if_false, List.append_nil] at hnx
        replace hnx := Lib.hid hnx
      case' false =>
        simp only [p1, p2, decide_true, Bool.not_false, Bool.true_and, Bool.false_or, if_true, if_false] at hnx
        replace hnx := Lib.hid hnx
      rotate_left
      · repeat' (first
    | refine AW_seq_kn fun K hK => ?_
    | refine AW_block ?_
    | (refine does_call rfl rfl ?_; simp only [push_cast, seval, *]; refine ACall.monoP (hky _) ?_; (try simp only [push_cast, seval, *]))
    | (refine does_call rfl rfl ?_; simp only [push_cast, seval, *]; refine ACall.monoP (hcm _) ?_; (try simp only [push_cast, seval, *]))
    | (refine does_call rfl rfl ?_; simp only [push_cast, seval, *]; refine ACall.monoP (compare5_p ⟨_, _, _⟩ ⟨_, _, _⟩ _) ?_; (try simp only [push_cast, seval, *]))
    | (refine does_call rfl rfl ?_; simp only [push_cast, seval, *]; refine ACall.monoP (rkey_p ⟨_, _, _, _⟩ _) ?_; (try simp only [push_cast, seval, *]))
    | ((first
      | refine AW_region_draw (id := 7) E0 (fun f => [].contains f) dLTG0 dATG0 mixed (by kernel_rfl) ?_
      | refine AW_region_draw (id := 9) E0 (fun f => [].contains f) [(0, false, []), (2, true, []), (1, false, [2]), (3, false, []), (4, false, [])] [[], [0], [], [0, 1, 2], [0, 1, 2, 3]] mixed (by kernel_rfl) ?_
      | refine AW_region E0 ?_ | refine AW_ret ?_ | refine AW_exit ?_ | refine AW_skip ?_ | unfold retQ); try simp only [push_cast, seval, *])
    | ((first | (apply AW_cond; (case hc => (simp only [push_cast, seval]; rfl))) | (apply ER_guard; (case hb => (simp only [push_cast, seval]; rfl)))); all_goals ((intro hc; first | (exfalso; simp only [push_cast, seval, *] at hc; done) | (exact absurd hc (by decide)) | ((try first | rw [Bool.not_true] at hc | rw [Bool.not_false] at hc); first | (with_reducible replace hc := tTT hc); clear hc | (with_reducible replace hc := tFF hc); clear hc | (have hp := hc; try simp only [decide_eq_true_eq, decide_eq_false_iff_not, bA, bB, bC, bD, bE, bF, bG, bH] at hp))) <;> try simp only [push_cast, seval, *]))
    | (refine Kn.go hK ?_; clear hK K)
    | refine Kn.go (by assumption) ?_
    | (intro n hn; (try simp only [upd_none2, join_none_iff, ite_none, ne_eq] at hn); (try simp only [push_cast, seval, *]))
    | (intro hc)
    | (apply ER_blk; (case hp => rfl); (case hb => (simp only [push_cast, seval]; rfl)); (case hd => (simp only [push_cast, seval]; done)); (case h => (intro hc; simp only [push_cast, seval, *]; rfl)); simp only [push_cast, seval, *])
    | fail)
        rename_i n1 h1
        have hG1 : Gs n1 = none := by
          have h := (unhid hown).none h1
          rw [upd_none] at h; exact h.2
        have c17 : ¬ n1 = m7 := of_eq_false (hne7 n1 h1).2
        have own1 := (unhid hown).new h1 (.r 80 4 1 [[.c (.int .i64 ys), .c (.int .i64 yk), .c (.int .i64 yn), .c (.int .i64 yt)]])
        refine does_app1 rfl rfl rfl rfl own1 (by simp only [upd_none2]; exact hn) tE47 tS80 tB80 tZ80 rfl (by decide) ?_ ?_ ?_
        · simp only [List.length_map, maxLen]; omega
        · simp only [List.length_map]; omega
        intro x' H' hown'
        have gk : upd (upd Gs m7 (bxT x)) n1 (.r 80 4 1 [[.c (.int .i64 ys), .c (.int .i64 yk), .c (.int .i64 yn), .c (.int .i64 yt)]]) m7 = some (bxT x) := by rw [upd_ne (Ne.symm c17), upd_same]
        have kk7 := hown'.get gk
        have hcs' := hown'.cs
        obtain ⟨H2, l1, l2⟩ := (hown'.turn gk (bxT x')).cut (K := upd Gs m7 (bxT x')) (cut1_le hG1)
        rw [show [[AV.c (Value.int IntKind.i64 ys), AV.c (Value.int IntKind.i64 yk), AV.c (Value.int IntKind.i64 yn), AV.c (Value.int IntKind.i64 yt)]] = [KC.av ⟨ys, yk, yn, yt⟩].map id from rfl, List.map_id, ← List.map_singleton (f := KC.av), ← List.map_append] at l2
        clear own1 hown hown' gk k4 k7 k9 hcs
        replace l1 := Lib.hid l1
        replace l2 := Lib.hid l2
        (try simp only [push_cast, seval, *])
        repeat' (first
    | refine AW_seq_kn fun K hK => ?_
    | refine AW_block ?_
    | (refine does_call rfl rfl ?_; simp only [push_cast, seval, *]; refine ACall.monoP (compare5_p ⟨_, _, _⟩ ⟨_, _, _⟩ _) ?_; (try simp only [push_cast, seval, *]))
    | (refine does_call rfl rfl ?_; simp only [push_cast, seval, *]; refine ACall.monoP (rkey_p ⟨_, _, _, _⟩ _) ?_; (try simp only [push_cast, seval, *]))
    | ((first
      | refine AW_region_draw (id := 7) E0 (fun f => [].contains f) dLTG0 dATG0 mixed (by kernel_rfl) ?_
      | refine AW_region_draw (id := 9) E0 (fun f => [].contains f) [(0, false, []), (2, true, []), (1, false, [2]), (3, false, []), (4, false, [])] [[], [0], [], [0, 1, 2], [0, 1, 2, 3]] mixed (by kernel_rfl) ?_
      | refine AW_region E0 ?_ | refine AW_ret ?_ | refine AW_exit ?_ | refine AW_skip ?_ | unfold retQ); try simp only [push_cast, seval, *])
    | ((first | (apply AW_cond; (case hc => (simp only [push_cast, seval]; rfl))) | (apply ER_guard; (case hb => (simp only [push_cast, seval]; rfl)))); all_goals ((intro hc; first | (exfalso; simp only [push_cast, seval, *] at hc; done) | (exact absurd hc (by decide)) | ((try first | rw [Bool.not_true] at hc | rw [Bool.not_false] at hc); first | (with_reducible replace hc := tTT hc); clear hc | (with_reducible replace hc := tFF hc); clear hc | (have hp := hc; try simp only [decide_eq_true_eq, decide_eq_false_iff_not, bA, bB, bC, bD, bE, bF, bG, bH] at hp))) <;> try simp only [push_cast, seval, *]))
    | (refine Kn.go hK ?_; clear hK K)
    | refine Kn.go (by assumption) ?_
    | (intro n hn; (try simp only [upd_none2, join_none_iff, ite_none, ne_eq] at hn); (try simp only [push_cast, seval, *]))
    | (intro hc)
    | (apply ER_blk; (case hp => rfl); (case hb => (simp only [push_cast, seval]; rfl)); (case hd => (simp only [push_cast, seval]; done)); (case h => (intro hc; simp only [push_cast, seval, *]; rfl)); simp only [push_cast, seval, *])
    | fail)
        exact ⟨(_, out ++ [⟨ys, yk, yn, yt⟩], x', H2), ⟨unhid hnx, unhid l2⟩, by (first | trivial | (simp only [push_cast, seval, *]; done)), unhid l1⟩
      · repeat' (first
    | refine AW_seq_kn fun K hK => ?_
    | refine AW_block ?_
    | (refine does_call rfl rfl ?_; simp only [push_cast, seval, *]; refine ACall.monoP (hky _) ?_; (try simp only [push_cast, seval, *]))
    | (refine does_call rfl rfl ?_; simp only [push_cast, seval, *]; refine ACall.monoP (hcm _) ?_; (try simp only [push_cast, seval, *]))
    | (refine does_call rfl rfl ?_; simp only [push_cast, seval, *]; refine ACall.monoP (compare5_p ⟨_, _, _⟩ ⟨_, _, _⟩ _) ?_; (try simp only [push_cast, seval, *]))
    | (refine does_call rfl rfl ?_; simp only [push_cast, seval, *]; refine ACall.monoP (rkey_p ⟨_, _, _, _⟩ _) ?_; (try simp only [push_cast, seval, *]))
    | ((first
      | refine AW_region_draw (id := 7) E0 (fun f => [].contains f) dLTG0 dATG0 mixed (by kernel_rfl) ?_
      | refine AW_region_draw (id := 9) E0 (fun f => [].contains f) [(0, false, []), (2, true, []), (1, false, [2]), (3, false, []), (4, false, [])] [[], [0], [], [0, 1, 2], [0, 1, 2, 3]] mixed (by kernel_rfl) ?_
      | refine AW_region E0 ?_ | refine AW_ret ?_ | refine AW_exit ?_ | refine AW_skip ?_ | unfold retQ); try simp only [push_cast, seval, *])
    | ((first | (apply AW_cond; (case hc => (simp only [push_cast, seval]; rfl))) | (apply ER_guard; (case hb => (simp only [push_cast, seval]; rfl)))); all_goals ((intro hc; first | (exfalso; simp only [push_cast, seval, *] at hc; done) | (exact absurd hc (by decide)) | ((try first | rw [Bool.not_true] at hc | rw [Bool.not_false] at hc); first | (with_reducible replace hc := tTT hc); clear hc | (with_reducible replace hc := tFF hc); clear hc | (have hp := hc; try simp only [decide_eq_true_eq, decide_eq_false_iff_not, bA, bB, bC, bD, bE, bF, bG, bH] at hp))) <;> try simp only [push_cast, seval, *]))
    | (refine Kn.go hK ?_; clear hK K)
    | refine Kn.go (by assumption) ?_
    | (intro n hn; (try simp only [upd_none2, join_none_iff, ite_none, ne_eq] at hn); (try simp only [push_cast, seval, *]))
    | (intro hc)
    | (apply ER_blk; (case hp => rfl); (case hb => (simp only [push_cast, seval]; rfl)); (case hd => (simp only [push_cast, seval]; done)); (case h => (intro hc; simp only [push_cast, seval, *]; rfl)); simp only [push_cast, seval, *])
    | fail)
        rename_i n1 h1
        have hG1 : Gs n1 = none := by
          have h := (unhid hown).none h1
          rw [upd_none] at h; exact h.2
        have c17 : ¬ n1 = m7 := of_eq_false (hne7 n1 h1).2
        have c14 : ¬ n4 = n1 := of_eq_false (hne4 n1 h1).1
        have own1 := (unhid hown).new h1 (.r 80 4 1 [[.c (.int .i64 ys), .c (.int .i64 yk), .c (.int .i64 yn), .c (.int .i64 yt)]])
        refine does_app1 rfl rfl rfl rfl own1 (by simp only [upd_none2]; exact hn) tE47 tS80 tB80 tZ80 rfl (by decide) ?_ ?_ ?_
        · simp only [List.length_map, maxLen]; omega
        · simp only [List.length_map]; omega
        intro x' H' hown'
        have gk : upd (upd Gs m7 (bxT x)) n1 (.r 80 4 1 [[.c (.int .i64 ys), .c (.int .i64 yk), .c (.int .i64 yn), .c (.int .i64 yt)]]) m7 = some (bxT x) := by rw [upd_ne (Ne.symm c17), upd_same]
        have kk7 := hown'.get gk
        have kk1 := hown'.get (upd_same _ _ _)
        have kk4 := hown'.get (m := n4) (by rw [upd_ne c14, upd_ne c47]; exact g4)
        have hcs' := hown'.cs
        have ht := hown'.turn gk (bxT x')
        have gk2 : upd (upd (upd Gs m7 (bxT x)) n1 (.r 80 4 1 [[.c (.int .i64 ys), .c (.int .i64 yk), .c (.int .i64 yn), .c (.int .i64 yt)]])) m7 (bxT x') m7 = some (bxT x') := upd_same _ _ _
        clear own1 hown hown' gk k4 k7 k9 hcs
        replace ht := Lib.hid ht
        (try simp only [push_cast, seval, *])
        repeat' (first
    | refine AW_seq_kn fun K hK => ?_
    | refine AW_block ?_
    | (refine does_call rfl rfl ?_; simp only [push_cast, seval, *]; refine ACall.monoP (hky _) ?_; (try simp only [push_cast, seval, *]))
    | (refine does_call rfl rfl ?_; simp only [push_cast, seval, *]; refine ACall.monoP (hcm _) ?_; (try simp only [push_cast, seval, *]))
    | (refine does_call rfl rfl ?_; simp only [push_cast, seval, *]; refine ACall.monoP (compare5_p ⟨_, _, _⟩ ⟨_, _, _⟩ _) ?_; (try simp only [push_cast, seval, *]))
    | (refine does_call rfl rfl ?_; simp only [push_cast, seval, *]; refine ACall.monoP (rkey_p ⟨_, _, _, _⟩ _) ?_; (try simp only [push_cast, seval, *]))
    | ((first
      | refine AW_region_draw (id := 7) E0 (fun f => [].contains f) dLTG0 dATG0 mixed (by kernel_rfl) ?_
      | refine AW_region_draw (id := 9) E0 (fun f => [].contains f) [(0, false, []), (2, true, []), (1, false, [2]), (3, false, []), (4, false, [])] [[], [0], [], [0, 1, 2], [0, 1, 2, 3]] mixed (by kernel_rfl) ?_
      | refine AW_region E0 ?_ | refine AW_ret ?_ | refine AW_exit ?_ | refine AW_skip ?_ | unfold retQ); try simp only [push_cast, seval, *])
    | ((first | (apply AW_cond; (case hc => (simp only [push_cast, seval]; rfl))) | (apply ER_guard; (case hb => (simp only [push_cast, seval]; rfl)))); all_goals ((intro hc; first | (exfalso; simp only [push_cast, seval, *] at hc; done) | (exact absurd hc (by decide)) | ((try first | rw [Bool.not_true] at hc | rw [Bool.not_false] at hc); first | (with_reducible replace hc := tTT hc); clear hc | (with_reducible replace hc := tFF hc); clear hc | (have hp := hc; try simp only [decide_eq_true_eq, decide_eq_false_iff_not, bA, bB, bC, bD, bE, bF, bG, bH] at hp))) <;> try simp only [push_cast, seval, *]))
    | (refine Kn.go hK ?_; clear hK K)
    | refine Kn.go (by assumption) ?_
    | (intro n hn; (try simp only [upd_none2, join_none_iff, ite_none, ne_eq] at hn); (try simp only [push_cast, seval, *]))
    | (intro hc)
    | (apply ER_blk; (case hp => rfl); (case hb => (simp only [push_cast, seval]; rfl)); (case hd => (simp only [push_cast, seval]; done)); (case h => (intro hc; simp only [push_cast, seval, *]; rfl)); simp only [push_cast, seval, *])
    | fail)
        refine does_app1 rfl rfl rfl rfl (unhid ht) (by simp only [upd_none2]; exact hn) tE47 tS80 tB80 tZ80 rfl (by decide) ?_ ?_ ?_
        · simp only [List.length_map, List.length_append, List.length_singleton, maxLen]; omega
        · simp only [List.length_map, List.length_append, List.length_singleton]; omega
        intro x2 H3 hown3
        have kk72 := hown3.get gk2
        have hcs2 := hown3.cs
        obtain ⟨H2, l1, l2⟩ := (hown3.turn gk2 (bxT x2)).cut (K := upd Gs m7 (bxT x2)) (cut_le hG1)
        rw [show ∀ R : List (List AV), R ++ [[AV.c (Value.int IntKind.i64 s), AV.c (Value.int IntKind.i64 k0), AV.c (Value.int IntKind.i64 cn), AV.c (Value.int IntKind.i64 cs)]] ++ [[AV.c (Value.int IntKind.i64 ys), AV.c (Value.int IntKind.i64 yk), AV.c (Value.int IntKind.i64 yn), AV.c (Value.int IntKind.i64 yt)]] = R ++ [newC ⟨s, k0, v⟩ ⟨cn, cs⟩].map KC.av ++ [(⟨ys, yk, yn, yt⟩ : KC)].map KC.av from fun _ => rfl, ← List.map_append, ← List.map_append] at l2
        clear ht hown3 gk2 kk7 kk1 kk4
        replace l1 := Lib.hid l1
        replace l2 := Lib.hid l2
        (try simp only [push_cast, seval, *])
        repeat' (first
    | refine AW_seq_kn fun K hK => ?_
    | refine AW_block ?_
    | (refine does_call rfl rfl ?_; simp only [push_cast, seval, *]; refine ACall.monoP (compare5_p ⟨_, _, _⟩ ⟨_, _, _⟩ _) ?_; (try simp only [push_cast, seval, *]))
    | (refine does_call rfl rfl ?_; simp only [push_cast, seval, *]; refine ACall.monoP (rkey_p ⟨_, _, _, _⟩ _) ?_; (try simp only [push_cast, seval, *]))
    | ((first
      | refine AW_region_draw (id := 7) E0 (fun f => [].contains f) dLTG0 dATG0 mixed (by kernel_rfl) ?_
      | refine AW_region_draw (id := 9) E0 (fun f => [].contains f) [(0, false, []), (2, true, []), (1, false, [2]), (3, false, []), (4, false, [])] [[], [0], [], [0, 1, 2], [0, 1, 2, 3]] mixed (by kernel_rfl) ?_
      | refine AW_region E0 ?_ | refine AW_ret ?_ | refine AW_exit ?_ | refine AW_skip ?_ | unfold retQ); try simp only [push_cast, seval, *])
    | ((first | (apply AW_cond; (case hc => (simp only [push_cast, seval]; rfl))) | (apply ER_guard; (case hb => (simp only [push_cast, seval]; rfl)))); all_goals ((intro hc; first | (exfalso; simp only [push_cast, seval, *] at hc; done) | (exact absurd hc (by decide)) | ((try first | rw [Bool.not_true] at hc | rw [Bool.not_false] at hc); first | (with_reducible replace hc := tTT hc); clear hc | (with_reducible replace hc := tFF hc); clear hc | (have hp := hc; try simp only [decide_eq_true_eq, decide_eq_false_iff_not, bA, bB, bC, bD, bE, bF, bG, bH] at hp))) <;> try simp only [push_cast, seval, *]))
    | (refine Kn.go hK ?_; clear hK K)
    | refine Kn.go (by assumption) ?_
    | (intro n hn; (try simp only [upd_none2, join_none_iff, ite_none, ne_eq] at hn); (try simp only [push_cast, seval, *]))
    | (intro hc)
    | (apply ER_blk; (case hp => rfl); (case hb => (simp only [push_cast, seval]; rfl)); (case hd => (simp only [push_cast, seval]; done)); (case h => (intro hc; simp only [push_cast, seval, *]; rfl)); simp only [push_cast, seval, *])
    | fail)
        exact ⟨(_, out ++ [newC ⟨s, k0, v⟩ ⟨cn, cs⟩] ++ [⟨ys, yk, yn, yt⟩], x2, H2), ⟨unhid hnx, unhid l2⟩, by (first | trivial | (simp only [push_cast, seval, *]; done)), unhid l1⟩
    · simp only [p1, p2, decide_false, Bool.and_false, Bool.or_false, Bool.false_eq_true, if_false, if_true, List.append_nil] at hnx
      replace hnx := Lib.hid hnx
      cases d
      all_goals
        repeat' (first
    | refine AW_seq_kn fun K hK => ?_
    | refine AW_block ?_
    | (refine does_call rfl rfl ?_; simp only [push_cast, seval, *]; refine ACall.monoP (hky _) ?_; (try simp only [push_cast, seval, *]))
    | (refine does_call rfl rfl ?_; simp only [push_cast, seval, *]; refine ACall.monoP (hcm _) ?_; (try simp only [push_cast, seval, *]))
    | (refine does_call rfl rfl ?_; simp only [push_cast, seval, *]; refine ACall.monoP (compare5_p ⟨_, _, _⟩ ⟨_, _, _⟩ _) ?_; (try simp only [push_cast, seval, *]))
    | (refine does_call rfl rfl ?_; simp only [push_cast, seval, *]; refine ACall.monoP (rkey_p ⟨_, _, _, _⟩ _) ?_; (try simp only [push_cast, seval, *]))
    | ((first
      | refine AW_region_draw (id := 7) E0 (fun f => [].contains f) dLTG0 dATG0 mixed (by kernel_rfl) ?_
      | refine AW_region_draw (id := 9) E0 (fun f => [].contains f) [(0, false, []), (2, true, []), (1, false, [2]), (3, false, []), (4, false, [])] [[], [0], [], [0, 1, 2], [0, 1, 2, 3]] mixed (by kernel_rfl) ?_
      | refine AW_region E0 ?_ | refine AW_ret ?_ | refine AW_exit ?_ | refine AW_skip ?_ | unfold retQ); try simp only [push_cast, seval, *])
    | ((first | (apply AW_cond; (case hc => (simp only [push_cast, seval]; rfl))) | (apply ER_guard; (case hb => (simp only [push_cast, seval]; rfl)))); all_goals ((intro hc; first | (exfalso; simp only [push_cast, seval, *] at hc; done) | (exact absurd hc (by decide)) | ((try first | rw [Bool.not_true] at hc | rw [Bool.not_false] at hc); first | (with_reducible replace hc := tTT hc); clear hc | (with_reducible replace hc := tFF hc); clear hc | (have hp := hc; try simp only [decide_eq_true_eq, decide_eq_false_iff_not, bA, bB, bC, bD, bE, bF, bG, bH] at hp))) <;> try simp only [push_cast, seval, *]))
    | (refine Kn.go hK ?_; clear hK K)
    | refine Kn.go (by assumption) ?_
    | (intro n hn; (try simp only [upd_none2, join_none_iff, ite_none, ne_eq] at hn); (try simp only [push_cast, seval, *]))
    | (intro hc)
    | (apply ER_blk; (case hp => rfl); (case hb => (simp only [push_cast, seval]; rfl)); (case hd => (simp only [push_cast, seval]; done)); (case h => (intro hc; simp only [push_cast, seval, *]; rfl)); simp only [push_cast, seval, *])
    | fail)
        exact ⟨(_, out, x, B), ⟨unhid hnx, unhid hown⟩, by (first | trivial | (simp only [push_cast, seval, *]; done)), by (repeat' (first | exact Heap.le_refl _ | refine hle_upd2 ?_ _ _ | (refine Heap.le_new ?_ ?_; rotate_left 1; focus (first | assumption | (simp only [upd_none2, upd_get, ne_eq, push_cast, seval, *]; done) | (simp [upd_get, *]; done)))))⟩
    · simp only [p1, p2, decide_false, Bool.and_false, Bool.or_false, Bool.false_eq_true, if_false, List.append_nil] at hnx
      replace hnx := Lib.hid hnx
      cases d
      all_goals
        repeat' (first
    | refine AW_seq_kn fun K hK => ?_
    | refine AW_block ?_
    | (refine does_call rfl rfl ?_; simp only [push_cast, seval, *]; refine ACall.monoP (hky _) ?_; (try simp only [push_cast, seval, *]))
    | (refine does_call rfl rfl ?_; simp only [push_cast, seval, *]; refine ACall.monoP (hcm _) ?_; (try simp only [push_cast, seval, *]))
    | (refine does_call rfl rfl ?_; simp only [push_cast, seval, *]; refine ACall.monoP (compare5_p ⟨_, _, _⟩ ⟨_, _, _⟩ _) ?_; (try simp only [push_cast, seval, *]))
    | (refine does_call rfl rfl ?_; simp only [push_cast, seval, *]; refine ACall.monoP (rkey_p ⟨_, _, _, _⟩ _) ?_; (try simp only [push_cast, seval, *]))
    | ((first
      | refine AW_region_draw (id := 7) E0 (fun f => [].contains f) dLTG0 dATG0 mixed (by kernel_rfl) ?_
      | refine AW_region_draw (id := 9) E0 (fun f => [].contains f) [(0, false, []), (2, true, []), (1, false, [2]), (3, false, []), (4, false, [])] [[], [0], [], [0, 1, 2], [0, 1, 2, 3]] mixed (by kernel_rfl) ?_
      | refine AW_region E0 ?_ | refine AW_ret ?_ | refine AW_exit ?_ | refine AW_skip ?_ | unfold retQ); try simp only [push_cast, seval, *])
    | ((first | (apply AW_cond; (case hc => (simp only [push_cast, seval]; rfl))) | (apply ER_guard; (case hb => (simp only [push_cast, seval]; rfl)))); all_goals ((intro hc; first | (exfalso; simp only [push_cast, seval, *] at hc; done) | (exact absurd hc (by decide)) | ((try first | rw [Bool.not_true] at hc | rw [Bool.not_false] at hc); first | (with_reducible replace hc := tTT hc); clear hc | (with_reducible replace hc := tFF hc); clear hc | (have hp := hc; try simp only [decide_eq_true_eq, decide_eq_false_iff_not, bA, bB, bC, bD, bE, bF, bG, bH] at hp))) <;> try simp only [push_cast, seval, *]))
    | (refine Kn.go hK ?_; clear hK K)
    | refine Kn.go (by assumption) ?_
    | (intro n hn; (try simp only [upd_none2, join_none_iff, ite_none, ne_eq] at hn); (try simp only [push_cast, seval, *]))
    | (intro hc)
    | (apply ER_blk; (case hp => rfl); (case hb => (simp only [push_cast, seval]; rfl)); (case hd => (simp only [push_cast, seval]; done)); (case h => (intro hc; simp only [push_cast, seval, *]; rfl)); simp only [push_cast, seval, *])
    | fail)
        rename_i n1 h1
        have hG1 : Gs n1 = none := by
          have h := (unhid hown).none h1
          rw [upd_none] at h; exact h.2
        have c17 : ¬ n1 = m7 := of_eq_false (hne7 n1 h1).2
        have own1 := (unhid hown).new h1 (.r 80 4 1 [[.c (.int .i64 ys), .c (.int .i64 yk), .c (.int .i64 yn), .c (.int .i64 yt)]])
        refine does_app1 rfl rfl rfl rfl own1 (by simp only [upd_none2]; exact hn) tE47 tS80 tB80 tZ80 rfl (by decide) ?_ ?_ ?_
        · simp only [List.length_map, maxLen]; omega
        · simp only [List.length_map]; omega
        intro x' H' hown'
        have gk : upd (upd Gs m7 (bxT x)) n1 (.r 80 4 1 [[.c (.int .i64 ys), .c (.int .i64 yk), .c (.int .i64 yn), .c (.int .i64 yt)]]) m7 = some (bxT x) := by rw [upd_ne (Ne.symm c17), upd_same]
        have kk7 := hown'.get gk
        have hcs' := hown'.cs
        obtain ⟨H2, l1, l2⟩ := (hown'.turn gk (bxT x')).cut (K := upd Gs m7 (bxT x')) (cut1_le hG1)
        rw [show [[AV.c (Value.int IntKind.i64 ys), AV.c (Value.int IntKind.i64 yk), AV.c (Value.int IntKind.i64 yn), AV.c (Value.int IntKind.i64 yt)]] = [KC.av ⟨ys, yk, yn, yt⟩].map id from rfl, List.map_id, ← List.map_singleton (f := KC.av), ← List.map_append] at l2
        clear own1 hown hown' gk k4 k7 k9 hcs
        replace l1 := Lib.hid l1
        replace l2 := Lib.hid l2
        (try simp only [push_cast, seval, *])
        repeat' (first
    | refine AW_seq_kn fun K hK => ?_
    | refine AW_block ?_
    | (refine does_call rfl rfl ?_; simp only [push_cast, seval, *]; refine ACall.monoP (compare5_p ⟨_, _, _⟩ ⟨_, _, _⟩ _) ?_; (try simp only [push_cast, seval, *]))
    | (refine does_call rfl rfl ?_; simp only [push_cast, seval, *]; refine ACall.monoP (rkey_p ⟨_, _, _, _⟩ _) ?_; (try simp only [push_cast, seval, *]))
    | ((first
      | refine AW_region_draw (id := 7) E0 (fun f => [].contains f) dLTG0 dATG0 mixed (by kernel_rfl) ?_
      | refine AW_region_draw (id := 9) E0 (fun f => [].contains f) [(0, false, []), (2, true, []), (1, false, [2]), (3, false, []), (4, false, [])] [[], [0], [], [0, 1, 2], [0, 1, 2, 3]] mixed (by kernel_rfl) ?_
      | refine AW_region E0 ?_ | refine AW_ret ?_ | refine AW_exit ?_ | refine AW_skip ?_ | unfold retQ); try simp only [push_cast, seval, *])
    | ((first | (apply AW_cond; (case hc => (simp only [push_cast, seval]; rfl))) | (apply ER_guard; (case hb => (simp only [push_cast, seval]; rfl)))); all_goals ((intro hc; first | (exfalso; simp only [push_cast, seval, *] at hc; done) | (exact absurd hc (by decide)) | ((try first | rw [Bool.not_true] at hc | rw [Bool.not_false] at hc); first | (with_reducible replace hc := tTT hc); clear hc | (with_reducible replace hc := tFF hc); clear hc | (have hp := hc; try simp only [decide_eq_true_eq, decide_eq_false_iff_not, bA, bB, bC, bD, bE, bF, bG, bH] at hp))) <;> try simp only [push_cast, seval, *]))
    | (refine Kn.go hK ?_; clear hK K)
    | refine Kn.go (by assumption) ?_
    | (intro n hn; (try simp only [upd_none2, join_none_iff, ite_none, ne_eq] at hn); (try simp only [push_cast, seval, *]))
    | (intro hc)
    | (apply ER_blk; (case hp => rfl); (case hb => (simp only [push_cast, seval]; rfl)); (case hd => (simp only [push_cast, seval]; done)); (case h => (intro hc; simp only [push_cast, seval, *]; rfl)); simp only [push_cast, seval, *])
    | fail)
        exact ⟨(_, out ++ [⟨ys, yk, yn, yt⟩], x', H2), ⟨unhid hnx, unhid l2⟩, by (first | trivial | (simp only [push_cast, seval, *]; done)), unhid l1⟩
  · rintro ⟨d, out, x, B⟩ ⟨hrp, hown⟩
    simp only at hrp hown
    have hd := hrp.done
    have hon := hrp.n
    rw [unhid hD, ← unhid hR] at hd
    have k6 := hown.get (m := n6) (by rw [upd_ne c67]; exact g6)
    have k7 := hown.get (m := m7) (upd_same _ _ _)
    have k9 := hown.get (m := m9) (by rw [upd_ne c97]; exact g9)
    have hcs := hown.cs
    have hfl : ∀ a b, Heap.le H (upd (upd Gs m7 a) n6 b) := fun a b q z hq => by
      have c6 : ¬ q = n6 := by rintro rfl; rw [hH6] at hq; cases hq
      have hz := unhid hle q z hq
      have c7 : ¬ q = m7 := by rintro rfl; rw [hG7] at hz; cases hz
      rw [upd_ne c6, upd_ne c7]; exact hz
    clear hrp h0 hzd hR hD
    cases d
    · simp only [Bool.false_eq_true, if_false] at hd
      subst hd
      replace hown := Lib.hid hown
      replace hfl := Lib.hid hfl
      repeat' (first
    | refine AW_seq_kn fun K hK => ?_
    | refine AW_block ?_
    | (refine does_call rfl rfl ?_; simp only [push_cast, seval, *]; refine ACall.monoP (compare5_p ⟨_, _, _⟩ ⟨_, _, _⟩ _) ?_; (try simp only [push_cast, seval, *]))
    | (refine does_call rfl rfl ?_; simp only [push_cast, seval, *]; refine ACall.monoP (rkey_p ⟨_, _, _, _⟩ _) ?_; (try simp only [push_cast, seval, *]))
    | ((first
      | refine AW_region_draw (id := 7) E0 (fun f => [].contains f) dLTG0 dATG0 mixed (by kernel_rfl) ?_
      | refine AW_region_draw (id := 9) E0 (fun f => [].contains f) [(0, false, []), (2, true, []), (1, false, [2]), (3, false, []), (4, false, [])] [[], [0], [], [0, 1, 2], [0, 1, 2, 3]] mixed (by kernel_rfl) ?_
      | refine AW_region E0 ?_ | refine AW_ret ?_ | refine AW_exit ?_ | refine AW_skip ?_ | unfold retQ); try simp only [push_cast, seval, *])
    | ((first | (apply AW_cond; (case hc => (simp only [push_cast, seval]; rfl))) | (apply ER_guard; (case hb => (simp only [push_cast, seval]; rfl)))); all_goals ((intro hc; first | (exfalso; simp only [push_cast, seval, *] at hc; done) | (exact absurd hc (by decide)) | ((try first | rw [Bool.not_true] at hc | rw [Bool.not_false] at hc); first | (with_reducible replace hc := tTT hc); clear hc | (with_reducible replace hc := tFF hc); clear hc | (have hp := hc; try simp only [decide_eq_true_eq, decide_eq_false_iff_not, bA, bB, bC, bD, bE, bF, bG, bH] at hp))) <;> try simp only [push_cast, seval, *]))
    | (refine Kn.go hK ?_; clear hK K)
    | refine Kn.go (by assumption) ?_
    | (intro n hn; (try simp only [upd_none2, join_none_iff, ite_none, ne_eq] at hn); (try simp only [push_cast, seval, *]))
    | (intro hc)
    | (apply ER_blk; (case hp => rfl); (case hb => (simp only [push_cast, seval]; rfl)); (case hd => (simp only [push_cast, seval]; done)); (case h => (intro hc; simp only [push_cast, seval, *]; rfl)); simp only [push_cast, seval, *])
    | fail)
      have hn2 := hn
      refine does_app1 rfl rfl rfl rfl (unhid hown) hn tE47 tS80 tB80 tZ80 rfl (by decide) ?_ ?_ ?_
      · simp only [List.length_map, maxLen]; omega
      · simp only [List.length_map]; omega
      intro x' H' hown'
      have kk7 := hown'.get (upd_same _ _ _)
      have kk6 := hown'.get (m := n6) (by rw [upd_ne c67]; exact g6)
      have hcs' := hown'.cs
      have ht := hown'.turn (upd_same _ _ _) (bxT x')
      rw [upd_upd] at ht
      have ht2 := ht.turn (m := n6) (by rw [upd_ne c67]; exact g6) (bxT x')
      rw [show ∀ R : List (List AV), R ++ [[AV.c (Value.int IntKind.i64 s), AV.c (Value.int IntKind.i64 k0), AV.c (Value.int IntKind.i64 cn), AV.c (Value.int IntKind.i64 cs)]] = R ++ [newC ⟨s, k0, v⟩ ⟨cn, cs⟩].map KC.av from fun _ => rfl, ← List.map_append] at ht2
      clear hown hown' ht k6 k7 k9 hn2
      replace ht2 := Lib.hid ht2
      (try simp only [push_cast, seval, *])
      repeat' (first
    | refine AW_seq_kn fun K hK => ?_
    | refine AW_block ?_
    | (refine does_call rfl rfl ?_; simp only [push_cast, seval, *]; refine ACall.monoP (compare5_p ⟨_, _, _⟩ ⟨_, _, _⟩ _) ?_; (try simp only [push_cast, seval, *]))
    | (refine does_call rfl rfl ?_; simp only [push_cast, seval, *]; refine ACall.monoP (rkey_p ⟨_, _, _, _⟩ _) ?_; (try simp only [push_cast, seval, *]))
    | ((first
      | refine AW_region_draw (id := 7) E0 (fun f => [].contains f) dLTG0 dATG0 mixed (by kernel_rfl) ?_
      | refine AW_region_draw (id := 9) E0 (fun f => [].contains f) [(0, false, []), (2, true, []), (1, false, [2]), (3, false, []), (4, false, [])] [[], [0], [], [0, 1, 2], [0, 1, 2, 3]] mixed (by kernel_rfl) ?_
      | refine AW_region E0 ?_ | refine AW_ret ?_ | refine AW_exit ?_ | refine AW_skip ?_ | unfold retQ); try simp only [push_cast, seval, *])
    | ((first | (apply AW_cond; (case hc => (simp only [push_cast, seval]; rfl))) | (apply ER_guard; (case hb => (simp only [push_cast, seval]; rfl)))); all_goals ((intro hc; first | (exfalso; simp only [push_cast, seval, *] at hc; done) | (exact absurd hc (by decide)) | ((try first | rw [Bool.not_true] at hc | rw [Bool.not_false] at hc); first | (with_reducible replace hc := tTT hc); clear hc | (with_reducible replace hc := tFF hc); clear hc | (have hp := hc; try simp only [decide_eq_true_eq, decide_eq_false_iff_not, bA, bB, bC, bD, bE, bF, bG, bH] at hp))) <;> try simp only [push_cast, seval, *]))
    | (refine Kn.go hK ?_; clear hK K)
    | refine Kn.go (by assumption) ?_
    | (intro n hn; (try simp only [upd_none2, join_none_iff, ite_none, ne_eq] at hn); (try simp only [push_cast, seval, *]))
    | (intro hc)
    | (apply ER_blk; (case hp => rfl); (case hb => (simp only [push_cast, seval]; rfl)); (case hd => (simp only [push_cast, seval]; done)); (case h => (intro hc; simp only [push_cast, seval, *]; rfl)); simp only [push_cast, seval, *])
    | fail)
      exact ⟨_, _, ((unhid ht2).weak fun F F' hF hi _ => Imp.g (Imps.cons hi (fun _ => rfl) Imps.nil)).trans (Weak.less (unhid hfl _ _)), rfl, rfl⟩
    · simp only [if_true, List.append_nil] at hd
      subst hd
      have ht2 := hown.turn (m := n6) (by rw [upd_ne c67]; exact g6) (bxT x)
      replace hown := Lib.hid hown
      replace hfl := Lib.hid hfl
      replace ht2 := Lib.hid ht2
      repeat' (first
    | refine AW_seq_kn fun K hK => ?_
    | refine AW_block ?_
    | (refine does_call rfl rfl ?_; simp only [push_cast, seval, *]; refine ACall.monoP (compare5_p ⟨_, _, _⟩ ⟨_, _, _⟩ _) ?_; (try simp only [push_cast, seval, *]))
    | (refine does_call rfl rfl ?_; simp only [push_cast, seval, *]; refine ACall.monoP (rkey_p ⟨_, _, _, _⟩ _) ?_; (try simp only [push_cast, seval, *]))
    | ((first
      | refine AW_region_draw (id := 7) E0 (fun f => [].contains f) dLTG0 dATG0 mixed (by kernel_rfl) ?_
      | refine AW_region_draw (id := 9) E0 (fun f => [].contains f) [(0, false, []), (2, true, []), (1, false, [2]), (3, false, []), (4, false, [])] [[], [0], [], [0, 1, 2], [0, 1, 2, 3]] mixed (by kernel_rfl) ?_
      | refine AW_region E0 ?_ | refine AW_ret ?_ | refine AW_exit ?_ | refine AW_skip ?_ | unfold retQ); try simp only [push_cast, seval, *])
    | ((first | (apply AW_cond; (case hc => (simp only [push_cast, seval]; rfl))) | (apply ER_guard; (case hb => (simp only [push_cast, seval]; rfl)))); all_goals ((intro hc; first | (exfalso; simp only [push_cast, seval, *] at hc; done) | (exact absurd hc (by decide)) | ((try first | rw [Bool.not_true] at hc | rw [Bool.not_false] at hc); first | (with_reducible replace hc := tTT hc); clear hc | (with_reducible replace hc := tFF hc); clear hc | (have hp := hc; try simp only [decide_eq_true_eq, decide_eq_false_iff_not, bA, bB, bC, bD, bE, bF, bG, bH] at hp))) <;> try simp only [push_cast, seval, *]))
    | (refine Kn.go hK ?_; clear hK K)
    | refine Kn.go (by assumption) ?_
    | (intro n hn; (try simp only [upd_none2, join_none_iff, ite_none, ne_eq] at hn); (try simp only [push_cast, seval, *]))
    | (intro hc)
    | (apply ER_blk; (case hp => rfl); (case hb => (simp only [push_cast, seval]; rfl)); (case hd => (simp only [push_cast, seval]; done)); (case h => (intro hc; simp only [push_cast, seval, *]; rfl)); simp only [push_cast, seval, *])
    | fail)
      exact ⟨_, _, ((unhid ht2).weak fun F F' hF hi _ => Imp.g (Imps.cons hi (fun _ => rfl) Imps.nil)).trans (Weak.less (unhid hfl _ _)), rfl, rfl⟩
end Go.Proofs.Ytmkncbddjnaklaa
