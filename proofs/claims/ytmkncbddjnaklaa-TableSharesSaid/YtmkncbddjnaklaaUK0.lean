/- Walks: the closure of Join. -/
import Derived.Test.YtmkncbddjnaklaaTM
namespace Go.Proofs.Ytmkncbddjnaklaa
open Go.RowKit
open Nat renaming reduceEqDiff → nA, reduceLT → nB, reduceLeDiff → nC, reduceAdd → nD, reduceMul → nE, reduceSub → nF, reduceBEq → nG
open Int renaming reduceToNat → iA, reduceLT → iB, reduceLE → iC, reduceEq → iD
open Bool renaming and_eq_true → bA, or_eq_true → bB, or_eq_false_iff → bC, and_eq_false_iff → bD, not_eq_true' → bE, not_eq_false' → bF, not_true → bG, not_false → bH
set_option linter.all false
set_option maxHeartbeats 4000000
attribute [local irreducible] AW Does ACall tE tS tB tZ
def dLUK00 : List En := [(0, false, []), (1, false, []), (2, false, []), (3, true, []), (4, false, []), (5, false, [3]), (6, false, []), (7, false, []), (8, false, []), (9, false, []), (10, false, []), (11, false, [])]
def dAUK00 : List (List Nat) := [[], [0], [0, 1], [0, 1, 2], [], [4], [0, 1, 2, 3, 4, 5], [0, 1, 2, 3, 4, 5, 6], [0, 1, 2, 3, 4, 5, 6, 7], [0, 1, 2, 3, 4, 5, 6, 7], [0, 1, 2, 3, 4, 5, 6, 7, 8], [0, 1, 2, 3, 4, 5, 6, 7, 8, 9, 10]]
attribute [push_cast] dLUK00
def dLUK01 : List En := [(0, false, []), (1, false, []), (3, false, []), (4, true, []), (2, false, [4]), (5, false, [])]
def dAUK01 : List (List Nat) := [[], [], [1], [], [3], [0, 1, 2, 3, 4]]
attribute [push_cast] dLUK01

abbrev tbB (T : List KC) : Blk := .r 49 1 1 [[.l 4 (T.map KC.av)]]
def joinA : List KC → List KC → List KC × Int
  | T, [] => (T, 0)
  | T, x :: l => if atB T (keyS x) = true then (T, 5) else joinA (setS T (keyS x) (cellK x)) l
theorem le_nb {Q : Heap} {nb n : Nat} {b k : Blk} (hn : Q n = none) : Heap.le (upd Q nb b) (upd (upd Q n k) nb b) := fun q z hq => by
  by_cases e : q = nb
  · subst e; rw [upd_same] at hq ⊢; exact hq
  · rw [upd_ne e] at hq ⊢
    have c1 : q ≠ n := by rintro rfl; rw [hn] at hq; cases hq
    rw [upd_ne c1]; exact hq
theorem join1_a (l : List KC) (hl : l.length ≤ 90000) (T : List KC) (hT : T.length ≤ 9000) (hr : Rise T) (mb nb : Nat) (Q B : Heap) (x : AV) (hnb : Q nb = none) (hmb : Q mb = some (tbB l)) (hown : OwnL B x 80 4 (T.map KC.av) (upd Q nb (bxT x))) :
    ACall Try.prog 84 [.p nb 1 0 0, .p mb 1 0 0] B fun q H' => q = .c (.int .i64 (joinA T l).2) ∧ ∃ x', OwnL H' x' 80 4 ((joinA T l).1.map KC.av) (upd Q nb (bxT x')) := by
  have cmn : mb ≠ nb := by rintro rfl; rw [hmb] at hnb; cases hnb
  have km := hown.get (m := mb) (by rw [upd_ne cmn]; exact hmb)
  obtain ⟨R, hR⟩ : ∃ R, R = joinA T l := ⟨_, rfl⟩
  rw [← hR]
  replace hR := Lib.hid hR
  replace hown := Lib.hid hown
  simp only [tbB] at km
  refine ACall_of' Try.func84 rfl (Ent_of Try.func84 (by kernel_rfl) rfl) (by simp [Try.ntmps84]) ?_; simp only [Try.ntmps84, Try.results84]
  repeat' (first
    | refine AW_seq_kn fun K hK => ?_
    | refine AW_block ?_
    | (refine does_call rfl rfl ?_; simp only [push_cast, seval, *]; refine ACall.monoP (key_p ⟨_, _, _, _⟩ _) ?_; (try simp only [push_cast, seval, *]))
    | ((first
      | refine AW_region_draw (id := 4) E0 (fun f => [].contains f) dLUK00 dAUK00 mixed (by kernel_rfl) ?_
      | refine AW_region_draw (id := 7) E0 (fun f => [].contains f) dLUK01 dAUK01 mixed (by kernel_rfl) ?_
      | refine AW_region E0 ?_ | refine AW_ret ?_ | refine AW_exit ?_ | refine AW_skip ?_ | unfold retQ); try simp only [push_cast, seval, *])
    | (apply AW_cond; (case hc => (simp only [push_cast, seval]; rfl)); all_goals (intro hc; first | (exfalso; simp only [push_cast, seval, *] at hc; done) | (exact absurd hc (by decide)) | ((try first | rw [Bool.not_true] at hc | rw [Bool.not_false] at hc); first | (with_reducible replace hc := tTT hc); clear hc | (with_reducible replace hc := tFF hc); clear hc | (have hp := hc; try simp only [decide_eq_true_eq, decide_eq_false_iff_not, bA, bB, bC, bD, bE, bF, bG, bH] at hp))))
    | (refine Kn.go hK ?_; clear hK K)
    | refine Kn.go (by assumption) ?_
    | (intro n hn; (try simp only [upd_none2, join_none_iff, ite_none, ne_eq] at hn); (try simp only [push_cast, seval, *]))
    | (intro hc)
    | fail)
  refine AW_loopX (σ := List KC × AV × Heap) l.length (fun k w => R = joinA w.1 (l.drop k) ∧ Rise w.1 ∧ w.1.length ≤ T.length + k ∧ OwnL w.2.2 w.2.1 80 4 (w.1.map KC.av) (upd Q nb (bxT w.2.1))) (fun k w => [(0, .p nb 1 0 0), (9, .l 4 (l.map KC.av)), (10, ci l.length), (11, ci k)]) (fun _ w => w.2.2) (T, x, B) ⟨unhid hR, hr, by simp, unhid hown⟩ ?_ ?_ ?_ ?_
  · (first | trivial | (simp only [push_cast, seval, *]; done))
  · exact Heap.le_refl _
  · clear hown km hr
    rintro k ⟨S, x, B⟩ hk ⟨hj, hrs, hsl, hown⟩
    simp only at hj hrs hsl hown
    have hy := List.getElem?_eq_getElem (l := l) hk; generalize l[k] = y at hy; have hym := List.mem_of_getElem? hy; have hkl : (k : Int) < l.length := (by omega); have hkw : IntKind.i64.wrap ((k : Int) + 1) = (k : Int) + 1 := wrap_i64 (by omega) (by omega)
    rw [drop_get hy] at hj
    simp only [joinA] at hj
    have hset := fun z M M0 hM ho => set_o S (by omega) hrs (keyS y) (cellK y) z nb M0 M hM ho
    have hat := at_p S (by omega) hrs (keyS y)
    have hsr := setS_rise hrs (keyS y) (cellK y)
    have hsn := setS_len S (keyS y) (cellK y)
    have hlt : ∀ M K0, OwnL M x 80 4 (S.map KC.av) K0 → ACall Try.prog 85 [x, .g (Rec.av (keyS y))] M (fun r H' => r = .t [.c (.int .i64 (atI S (keyS y) : Nat)), .c (.bool (atB S (keyS y)))] ∧ H' = M) := fun M K0 ho => ACall.lend (args' := [.l 4 (S.map KC.av), .g (Rec.av (keyS y))]) (Flat.two _ _) (show Lent _ _ _ ∧ Lent _ _ _ ∧ True from ⟨ho.lent, Lent.refl _ _, trivial⟩) hat.cl
    clear hat
    generalize setS S (keyS y) (cellK y) = S2 at *
    generalize atI S (keyS y) = i at *
    generalize atB S (keyS y) = b at *
    have kn := hown.get (upd_same _ _ _)
    have hcs := hown.cs
    have hone := hown.one
    have hnb2 := ne_old kn
    have hty : List.take 4 (KC.av y) = KC.av y := rfl
    obtain ⟨ys, yk, yn, yt⟩ := y
    simp only [keyS, Rec.av, cellK, CellD.av] at hset hlt
    replace hset := Lib.hid hset
    replace hlt := Lib.hid hlt
    replace hown := Lib.hid hown
    replace hsr := Lib.hid hsr
    replace hj := Lib.hid hj
    simp only [bxT] at kn
    repeat' (first
    | refine AW_seq_kn fun K hK => ?_
    | refine AW_block ?_
    | (refine does_call rfl rfl ?_; simp only [push_cast, seval, *]; refine ACall.monoP (key_p ⟨_, _, _, _⟩ _) ?_; (try simp only [push_cast, seval, *]))
    | ((first
      | refine AW_region_draw (id := 4) E0 (fun f => [].contains f) dLUK00 dAUK00 mixed (by kernel_rfl) ?_
      | refine AW_region_draw (id := 7) E0 (fun f => [].contains f) dLUK01 dAUK01 mixed (by kernel_rfl) ?_
      | refine AW_region E0 ?_ | refine AW_ret ?_ | refine AW_exit ?_ | refine AW_skip ?_ | unfold retQ); try simp only [push_cast, seval, *])
    | (apply AW_cond; (case hc => (simp only [push_cast, seval]; rfl)); all_goals (intro hc; first | (exfalso; simp only [push_cast, seval, *] at hc; done) | (exact absurd hc (by decide)) | ((try first | rw [Bool.not_true] at hc | rw [Bool.not_false] at hc); first | (with_reducible replace hc := tTT hc); clear hc | (with_reducible replace hc := tFF hc); clear hc | (have hp := hc; try simp only [decide_eq_true_eq, decide_eq_false_iff_not, bA, bB, bC, bD, bE, bF, bG, bH] at hp))))
    | (refine Kn.go hK ?_; clear hK K)
    | refine Kn.go (by assumption) ?_
    | (intro n hn; (try simp only [upd_none2, join_none_iff, ite_none, ne_eq] at hn); (try simp only [push_cast, seval, *]))
    | (intro hc)
    | fail)
    have o2 := (unhid hown).new hn (.r 80 4 1 [[.c (.int .i64 ys), .c (.int .i64 yk), .c (.int .i64 yn), .c (.int .i64 yt)]])
    have hQn : Q n = none := by
      have h := (unhid hown).none hn
      rw [upd_none] at h; exact h.2
    have cn : ¬ nb = n := of_eq_false (hnb2 n hn).1
    refine does_call rfl rfl ?_
    simp only [push_cast, seval, *]
    refine ACall.mono (unhid hlt _ _ o2) ?_
    rintro _ _ ⟨rfl, e2⟩
    have e3 := e2.symm; clear e2; subst e3
    rw [upd_comm cn] at o2
    replace o2 := Lib.hid o2
    cases b
    · have hj2 := unhid hj
      rw [if_neg (by simp)] at hj2
      replace hj2 := Lib.hid hj2
      clear hj
      (try simp only [push_cast, seval, *])
      repeat' (first
    | refine AW_seq_kn fun K hK => ?_
    | refine AW_block ?_
    | (refine does_call rfl rfl ?_; simp only [push_cast, seval, *]; refine ACall.monoP (key_p ⟨_, _, _, _⟩ _) ?_; (try simp only [push_cast, seval, *]))
    | ((first
      | refine AW_region_draw (id := 4) E0 (fun f => [].contains f) dLUK00 dAUK00 mixed (by kernel_rfl) ?_
      | refine AW_region_draw (id := 7) E0 (fun f => [].contains f) dLUK01 dAUK01 mixed (by kernel_rfl) ?_
      | refine AW_region E0 ?_ | refine AW_ret ?_ | refine AW_exit ?_ | refine AW_skip ?_ | unfold retQ); try simp only [push_cast, seval, *])
    | (apply AW_cond; (case hc => (simp only [push_cast, seval]; rfl)); all_goals (intro hc; first | (exfalso; simp only [push_cast, seval, *] at hc; done) | (exact absurd hc (by decide)) | ((try first | rw [Bool.not_true] at hc | rw [Bool.not_false] at hc); first | (with_reducible replace hc := tTT hc); clear hc | (with_reducible replace hc := tFF hc); clear hc | (have hp := hc; try simp only [decide_eq_true_eq, decide_eq_false_iff_not, bA, bB, bC, bD, bE, bF, bG, bH] at hp))))
    | (refine Kn.go hK ?_; clear hK K)
    | refine Kn.go (by assumption) ?_
    | (intro n hn; (try simp only [upd_none2, join_none_iff, ite_none, ne_eq] at hn); (try simp only [push_cast, seval, *]))
    | (intro hc)
    | fail)
      refine does_call rfl rfl ?_
      simp only [push_cast, seval, *]
      refine ACall.mono (unhid hset x _ (upd Q n (.r 80 4 1 [[.c (.int .i64 ys), .c (.int .i64 yk), .c (.int .i64 yn), .c (.int .i64 yt)]])) (by rw [upd_ne cn]; exact hnb) (unhid o2)) ?_
      rintro q H' ⟨x', hx'⟩
      have kx := hx'.get (m := n) (by rw [upd_ne (Ne.symm cn), upd_same])
      obtain ⟨B4, l1, l2⟩ := hx'.cut (K := upd Q nb (bxT x')) (le_nb hQn)
      have hl2 : S2.length ≤ T.length + (k + 1) := by omega
      clear hx' o2 hown kn hlt hset
      replace l1 := Lib.hid l1
      replace l2 := Lib.hid l2
      (try simp only [push_cast, seval, *])
      repeat' (first
    | refine AW_seq_kn fun K hK => ?_
    | refine AW_block ?_
    | (refine does_call rfl rfl ?_; simp only [push_cast, seval, *]; refine ACall.monoP (key_p ⟨_, _, _, _⟩ _) ?_; (try simp only [push_cast, seval, *]))
    | ((first
      | refine AW_region_draw (id := 4) E0 (fun f => [].contains f) dLUK00 dAUK00 mixed (by kernel_rfl) ?_
      | refine AW_region_draw (id := 7) E0 (fun f => [].contains f) dLUK01 dAUK01 mixed (by kernel_rfl) ?_
      | refine AW_region E0 ?_ | refine AW_ret ?_ | refine AW_exit ?_ | refine AW_skip ?_ | unfold retQ); try simp only [push_cast, seval, *])
    | (apply AW_cond; (case hc => (simp only [push_cast, seval]; rfl)); all_goals (intro hc; first | (exfalso; simp only [push_cast, seval, *] at hc; done) | (exact absurd hc (by decide)) | ((try first | rw [Bool.not_true] at hc | rw [Bool.not_false] at hc); first | (with_reducible replace hc := tTT hc); clear hc | (with_reducible replace hc := tFF hc); clear hc | (have hp := hc; try simp only [decide_eq_true_eq, decide_eq_false_iff_not, bA, bB, bC, bD, bE, bF, bG, bH] at hp))))
    | (refine Kn.go hK ?_; clear hK K)
    | refine Kn.go (by assumption) ?_
    | (intro n hn; (try simp only [upd_none2, join_none_iff, ite_none, ne_eq] at hn); (try simp only [push_cast, seval, *]))
    | (intro hc)
    | fail)
      exact ⟨(S2, x', B4), ⟨unhid hj2, unhid hsr, hl2, unhid l2⟩, by (first | trivial | (simp only [push_cast, seval, *]; done)), unhid l1⟩
    · have hj2 := unhid hj
      rw [if_pos rfl] at hj2
      obtain ⟨R1, R2⟩ := R
      simp only [Prod.mk.injEq] at hj2
      obtain ⟨rfl, rfl⟩ := hj2
      clear hj hR
      obtain ⟨B4, l1, l2⟩ := (unhid o2).cut (K := upd Q nb (bxT x)) (le_nb hQn)
      replace l1 := Lib.hid l1
      replace l2 := Lib.hid l2
      (try simp only [push_cast, seval, *])
      repeat' (first
    | refine AW_seq_kn fun K hK => ?_
    | refine AW_block ?_
    | (refine does_call rfl rfl ?_; simp only [push_cast, seval, *]; refine ACall.monoP (key_p ⟨_, _, _, _⟩ _) ?_; (try simp only [push_cast, seval, *]))
    | ((first
      | refine AW_region_draw (id := 4) E0 (fun f => [].contains f) dLUK00 dAUK00 mixed (by kernel_rfl) ?_
      | refine AW_region_draw (id := 7) E0 (fun f => [].contains f) dLUK01 dAUK01 mixed (by kernel_rfl) ?_
      | refine AW_region E0 ?_ | refine AW_ret ?_ | refine AW_exit ?_ | refine AW_skip ?_ | unfold retQ); try simp only [push_cast, seval, *])
    | (apply AW_cond; (case hc => (simp only [push_cast, seval]; rfl)); all_goals (intro hc; first | (exfalso; simp only [push_cast, seval, *] at hc; done) | (exact absurd hc (by decide)) | ((try first | rw [Bool.not_true] at hc | rw [Bool.not_false] at hc); first | (with_reducible replace hc := tTT hc); clear hc | (with_reducible replace hc := tFF hc); clear hc | (have hp := hc; try simp only [decide_eq_true_eq, decide_eq_false_iff_not, bA, bB, bC, bD, bE, bF, bG, bH] at hp))))
    | (refine Kn.go hK ?_; clear hK K)
    | refine Kn.go (by assumption) ?_
    | (intro n hn; (try simp only [upd_none2, join_none_iff, ite_none, ne_eq] at hn); (try simp only [push_cast, seval, *]))
    | (intro hc)
    | fail)
      exact ⟨_, B4, Weak.less (unhid l1), rfl, x, unhid l2⟩
  · rintro ⟨S, x, B⟩ ⟨hj, hrs, hsl, hown⟩
    simp only at hj hown
    rw [List.drop_length] at hj
    simp only [joinA] at hj
    subst hj
    clear hR
    have hcs := hown.cs
    repeat' (first
    | refine AW_seq_kn fun K hK => ?_
    | refine AW_block ?_
    | (refine does_call rfl rfl ?_; simp only [push_cast, seval, *]; refine ACall.monoP (key_p ⟨_, _, _, _⟩ _) ?_; (try simp only [push_cast, seval, *]))
    | ((first
      | refine AW_region_draw (id := 4) E0 (fun f => [].contains f) dLUK00 dAUK00 mixed (by kernel_rfl) ?_
      | refine AW_region_draw (id := 7) E0 (fun f => [].contains f) dLUK01 dAUK01 mixed (by kernel_rfl) ?_
      | refine AW_region E0 ?_ | refine AW_ret ?_ | refine AW_exit ?_ | refine AW_skip ?_ | unfold retQ); try simp only [push_cast, seval, *])
    | (apply AW_cond; (case hc => (simp only [push_cast, seval]; rfl)); all_goals (intro hc; first | (exfalso; simp only [push_cast, seval, *] at hc; done) | (exact absurd hc (by decide)) | ((try first | rw [Bool.not_true] at hc | rw [Bool.not_false] at hc); first | (with_reducible replace hc := tTT hc); clear hc | (with_reducible replace hc := tFF hc); clear hc | (have hp := hc; try simp only [decide_eq_true_eq, decide_eq_false_iff_not, bA, bB, bC, bD, bE, bF, bG, bH] at hp))))
    | (refine Kn.go hK ?_; clear hK K)
    | refine Kn.go (by assumption) ?_
    | (intro n hn; (try simp only [upd_none2, join_none_iff, ite_none, ne_eq] at hn); (try simp only [push_cast, seval, *]))
    | (intro hc)
    | fail)
    exact ⟨_, _, Weak.refl _ _, rfl, x, hown⟩
end Go.Proofs.Ytmkncbddjnaklaa
