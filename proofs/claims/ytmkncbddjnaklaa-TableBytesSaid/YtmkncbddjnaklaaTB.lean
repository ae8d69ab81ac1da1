/- Walks: rows of a table; where a key's is; which tables may be. -/
import Derived.Test.YtmkncbddjnaklaaTA
import Derived.Test.YtmkncbddjnaklaaMD
namespace Go.Proofs.Ytmkncbddjnaklaa
open Go.RowKit
open Nat renaming reduceEqDiff → nA, reduceLT → nB, reduceLeDiff → nC, reduceAdd → nD, reduceMul → nE, reduceSub → nF, reduceBEq → nG
open Int renaming reduceToNat → iA, reduceLT → iB, reduceLE → iC, reduceEq → iD
open Bool renaming and_eq_true → bA, or_eq_true → bB, or_eq_false_iff → bC, and_eq_false_iff → bD, not_eq_true' → bE, not_eq_false' → bF, not_true → bG, not_false → bH
set_option linter.all false
set_option maxHeartbeats 4000000
attribute [local irreducible] AW Does ACall tE tS tB tZ
def dLTB0 : List En := [(0, false, []), (1, false, []), (2, false, []), (3, false, []), (4, false, []), (5, false, []), (6, false, []), (7, false, [])]
def dATB0 : List (List Nat) := [[], [], [], [1, 2], [1, 2, 3], [], [0, 1, 2, 3, 4, 5], [0, 1, 2, 3, 4, 5, 6]]
attribute [push_cast] dLTB0
def dLTB1 : List En := [(0, false, []), (1, false, []), (2, false, []), (3, false, []), (4, false, []), (5, false, []), (6, false, []), (7, false, []), (8, false, []), (9, false, []), (10, false, []), (11, false, []), (12, false, []), (13, false, []), (14, false, []), (15, false, [])]
def dATB1 : List (List Nat) := [[], [], [], [1, 2], [1, 2, 3], [1, 2, 3, 4], [1, 2, 3, 4], [1, 2, 3, 4], [1, 2, 3, 4, 6, 7], [1, 2, 3, 4, 6, 7, 8], [1, 2, 3, 4], [1, 2, 3, 4, 5, 6, 7, 8, 9, 10], [1, 2, 3, 4, 5, 6, 7, 8, 9, 10, 11], [1, 2, 3, 4, 5, 6, 7, 8, 9, 10, 11, 12], [0, 1, 2, 3, 4, 5, 6, 7, 8, 9, 10, 11], [0, 1, 2, 3, 4, 5, 6, 7, 8, 9, 10, 11, 12, 13, 14]]
attribute [push_cast] dLTB1

structure KC where
  s : Int
  k : Int
  n : Int
  t : Int
  deriving DecidableEq
def KC.av (x : KC) : List AV := [.c (.int .i64 x.s), .c (.int .i64 x.k), .c (.int .i64 x.n), .c (.int .i64 x.t)]
attribute [push_cast] KC.av
def keyS (x : KC) : Rec := ⟨x.s, x.k, 0⟩
theorem key_p (x : KC) : Pure Try.prog 86 [.g (KC.av x)] (.g (Rec.av (keyS x))) := by
  intro H
  obtain ⟨s, k, n, t⟩ := x
  simp only [KC.av, keyS, Rec.av]
  refine ACall_of' Try.func86 rfl (Ent_of Try.func86 (by kernel_rfl) rfl) (by simp [Try.ntmps86]) ?_; simp only [Try.ntmps86, Try.results86]
  repeat' (first
    | refine AW_seq_kn fun K hK => ?_
    | refine AW_block ?_
    | ((first
      | refine AW_region E0 ?_ | refine AW_ret ?_ | refine AW_exit ?_ | refine AW_skip ?_ | unfold retQ); try simp only [push_cast, seval, *])
    | (apply AW_cond; (case hc => (simp only [push_cast, seval]; rfl)); all_goals (intro hc; first | (exfalso; simp only [push_cast, seval, *] at hc; done) | (exact absurd hc (by decide)) | ((try first | rw [Bool.not_true] at hc | rw [Bool.not_false] at hc); first | (with_reducible replace hc := tTT hc); clear hc | (with_reducible replace hc := tFF hc); clear hc | (have hp := hc; try simp only [decide_eq_true_eq, decide_eq_false_iff_not, bA, bB, bC, bD, bE, bF, bG, bH] at hp))))
    | (refine Kn.go hK ?_; clear hK K)
    | refine Kn.go (by assumption) ?_
    | (intro n hn; (try simp only [upd_none2, join_none_iff, ite_none, ne_eq] at hn); (try simp only [push_cast, seval, *]))
    | (intro hc)
    | fail)
  exact ⟨_, _, Weak.less (by (simp only [push_cast, seval, *])), rfl, rfl⟩

theorem rkey_p (x : KC) : Pure Try.prog 83 [.g (KC.av x)] (.g (Rec.av (keyS x))) := by
  intro H
  obtain ⟨s, k, n, t⟩ := x
  simp only [KC.av, keyS, Rec.av]
  refine ACall_of' Try.func83 rfl (Ent_of Try.func83 (by kernel_rfl) rfl) (by simp [Try.ntmps83]) ?_; simp only [Try.ntmps83, Try.results83]
  repeat' (first
    | refine AW_seq_kn fun K hK => ?_
    | refine AW_block ?_
    | ((first
      | refine AW_region E0 ?_ | refine AW_ret ?_ | refine AW_exit ?_ | refine AW_skip ?_ | unfold retQ); try simp only [push_cast, seval, *])
    | (apply AW_cond; (case hc => (simp only [push_cast, seval]; rfl)); all_goals (intro hc; first | (exfalso; simp only [push_cast, seval, *] at hc; done) | (exact absurd hc (by decide)) | ((try first | rw [Bool.not_true] at hc | rw [Bool.not_false] at hc); first | (with_reducible replace hc := tTT hc); clear hc | (with_reducible replace hc := tFF hc); clear hc | (have hp := hc; try simp only [decide_eq_true_eq, decide_eq_false_iff_not, bA, bB, bC, bD, bE, bF, bG, bH] at hp))))
    | (refine Kn.go hK ?_; clear hK K)
    | refine Kn.go (by assumption) ?_
    | (intro n hn; (try simp only [upd_none2, join_none_iff, ite_none, ne_eq] at hn); (try simp only [push_cast, seval, *]))
    | (intro hc)
    | fail)
  exact ⟨_, _, Weak.less (by (simp only [push_cast, seval, *])), rfl, rfl⟩

theorem at1_p (x : KC) (r : Rec) : Pure Try.prog 117 [.g (KC.av x), .g (Rec.av r)] (.c (.int .i64 (cmpR (keyS x) r))) := by
  intro H
  have h1 := key_p x
  have h2 := compare_p (keyS x) r
  generalize cmpR (keyS x) r = R at *
  generalize keyS x = y at *
  obtain ⟨s, k, n, t⟩ := x
  obtain ⟨ys, yk, yv⟩ := y
  obtain ⟨rs, rk, rv⟩ := r
  simp only [KC.av, Rec.av] at h1 h2 ⊢
  refine ACall_of' Try.func117 rfl (Ent_of Try.func117 (by kernel_rfl) rfl) (by simp [Try.ntmps117]) ?_; simp only [Try.ntmps117, Try.results117]
  repeat' (first
    | refine AW_seq_kn fun K hK => ?_
    | refine AW_block ?_
    | (refine does_call rfl rfl ?_; simp only [push_cast, seval, *]; refine ACall.monoP (h1 _) ?_; (try simp only [push_cast, seval, *]))
    | (refine does_call rfl rfl ?_; simp only [push_cast, seval, *]; refine ACall.monoP (h2 _) ?_; (try simp only [push_cast, seval, *]))
    | (refine does_call rfl rfl ?_; simp only [push_cast, seval, *]; refine ACall.monoP (compare_p ⟨_, _, _⟩ ⟨_, _, _⟩ _) ?_; (try simp only [push_cast, seval, *]))
    | (refine does_call rfl rfl ?_; simp only [push_cast, seval, *]; refine ACall.monoP (key_p ⟨_, _, _, _⟩ _) ?_; (try simp only [push_cast, seval, *]))
    | ((first
      | refine AW_region_draw (id := 1) E0 (fun f => [].contains f) [(0, false, []), (2, true, []), (1, false, [2]), (3, false, []), (4, false, [])] [[], [0], [], [0, 1, 2], [0, 1, 2, 3]] mixed (by kernel_rfl) ?_
      | refine AW_region E0 ?_ | refine AW_ret ?_ | refine AW_exit ?_ | refine AW_skip ?_ | unfold retQ); try simp only [push_cast, seval, *])
    | (apply AW_cond; (case hc => (simp only [push_cast, seval]; rfl)); all_goals (intro hc; first | (exfalso; simp only [push_cast, seval, *] at hc; done) | (exact absurd hc (by decide)) | ((try first | rw [Bool.not_true] at hc | rw [Bool.not_false] at hc); first | (with_reducible replace hc := tTT hc); clear hc | (with_reducible replace hc := tFF hc); clear hc | (have hp := hc; try simp only [decide_eq_true_eq, decide_eq_false_iff_not, bA, bB, bC, bD, bE, bF, bG, bH] at hp))))
    | (refine Kn.go hK ?_; clear hK K)
    | refine Kn.go (by assumption) ?_
    | (intro n hn; (try simp only [upd_none2, join_none_iff, ite_none, ne_eq] at hn); (try simp only [push_cast, seval, *]))
    | (intro hc)
    | fail)
  exact ⟨_, _, Weak.less (by (simp only [push_cast, seval, *])), rfl, rfl⟩
theorem kbs {α : Type} (enc : α → List AV) (he : ∀ x, (enc x).length = 4) (l : List α) (hl : l.length ≤ 1000000) (c : α → Int) (hm : ∀ (i j : Nat) (x y : α), i < j → l[i]? = some x → l[j]? = some y → c y < 0 → c x < 0) (ts : List AV) (hts : ts.length = 3) (gf : FuncId) (caps : List AV) (H : Heap)
    (hf : ∀ x ∈ l, ∀ H, ACall Try.prog gf ([.g (enc x), .g ts] ++ caps) H fun r H' => r = .c (.int .i64 (c x)) ∧ H' = H) :
    ACall Try.prog 116 [.l 4 (l.map enc), .g ts, .f (.func gf) [] caps] H fun r H' => r = .t [.c (.int .i64 (lbd (fun x => decide (c x < 0)) l : Nat)), .c (.bool (bsF c l))] ∧ H' = H := by
  have hbs := fun (i : Nat) (x : α) (hi : i = lbd (fun x => decide (c x < 0)) l) (hx : l[i]? = some x) => bsF_some (c := c) hi hx
  have hbn := fun (i : Nat) (hi : i = lbd (fun x => decide (c x < 0)) l) (hx : l[i]? = none) => bsF_none (c := c) hi hx
  generalize bsF c l = bs at *
  have hlb := lbd_le (fun x => decide (c x < 0)) l
  have hup := fun (h : Nat) (x : α) (hx : l[h]? = some x) (hc : c x < 0) => lbd_up (p := fun x => decide (c x < 0)) hx (fun i y hi hy => by
    by_cases e : i = h
    · subst e; rw [hx] at hy; cases hy; simpa using hc
    · simpa using hm i h y x (by omega) hy hx hc)
  have hdn := fun (h : Nat) (x : α) (hx : l[h]? = some x) (hc : ¬ c x < 0) => lbd_dn (p := fun x => decide (c x < 0)) hx (by simpa using hc)
  clear hm
  generalize lbd (fun x => decide (c x < 0)) l = lb at *
  replace hup := Lib.hid hup
  replace hdn := Lib.hid hdn
  replace hbs := Lib.hid hbs
  replace hbn := Lib.hid hbn
  have htt : List.take 3 ts = ts := List.take_of_length_le (Nat.le_of_eq hts)
  refine ACall_of' Try.func116 rfl (Ent_of Try.func116 (by kernel_rfl) rfl) (by simp [Try.ntmps116]) ?_; simp only [Try.ntmps116, Try.results116]
  repeat' (first
    | refine AW_seq_kn fun K hK => ?_
    | refine AW_block ?_
    | ((first
      | refine AW_region_draw (id := 5) E0 (fun f => [].contains f) dLTB0 dATB0 mixed (by kernel_rfl) ?_
      | refine AW_region_draw (id := 8) E0 (fun f => [].contains f) dLTB1 dATB1 mixed (by kernel_rfl) ?_
      | refine AW_region E0 ?_ | refine AW_ret ?_ | refine AW_exit ?_ | refine AW_skip ?_ | unfold retQ); try simp only [push_cast, seval, *])
    | ((first | (apply AW_cond; (case hc => (simp only [push_cast, seval]; rfl))) | (apply ER_guard; (case hb => (simp only [push_cast, seval]; rfl)))); all_goals ((intro hc; first | (exfalso; simp only [push_cast, seval, *] at hc; done) | (exact absurd hc (by decide)) | ((try first | rw [Bool.not_true] at hc | rw [Bool.not_false] at hc); first | (with_reducible replace hc := tTT hc); clear hc | (with_reducible replace hc := tFF hc); clear hc | (have hp := hc; try simp only [decide_eq_true_eq, decide_eq_false_iff_not, bA, bB, bC, bD, bE, bF, bG, bH] at hp))) <;> try simp only [push_cast, seval, *]))
    | (refine Kn.go hK ?_; clear hK K)
    | refine Kn.go (by assumption) ?_
    | (intro n hn; (try simp only [upd_none2, join_none_iff, ite_none, ne_eq] at hn); (try simp only [push_cast, seval, *]))
    | (intro hc)
    | (apply ER_blk; (case hp => rfl); (case hb => (simp only [push_cast, seval]; rfl)); (case hd => (simp only [push_cast, seval]; done)); (case h => (intro hc; simp only [push_cast, seval, *]; rfl)); simp only [push_cast, seval, *])
    | fail)
  generalize n = nb at *
  refine AW_loopS (σ := Nat × Nat) (fun s => s.1 ≤ lb ∧ lb ≤ s.2 ∧ s.2 ≤ l.length) (fun s => [(0, .l 4 (l.map enc)), (2, .f (.func gf) [] caps), (4, .p nb 3 0 0), (8, ci l.length), (9, ci s.1), (10, ci s.2)]) (fun _ => upd H nb (.r 54 3 1 [ts])) (fun s => s.2 - s.1) (0, l.length) ⟨by omega, hlb, Nat.le_refl _⟩ ?_ (Heap.le_refl _) ?_
  · (first | trivial | (simp only [push_cast, seval, *]; done))
  · rintro ⟨i, j⟩ ⟨hi, hj, hjl⟩
    simp only at hi hj hjl
    by_cases hij : i < j
    · have hijI : (i : Int) < j := by omega
      have hw1 : IntKind.i64.wrap ((i : Int) + j) = (i : Int) + j := wrap_i64 (by omega) (by omega)
      have hw2 : IntKind.u64.wrap ((i : Int) + j) = (i : Int) + j := wrap_u64 (by omega) (by omega)
      have hfd := fdiv2 i j
      obtain ⟨h, hh⟩ : ∃ h, h = (i + j) / 2 := ⟨_, rfl⟩
      rw [← hh] at hfd
      have hw3 : IntKind.i64.wrap (h : Int) = h := wrap_i64 (by omega) (by omega)
      have hw4 : IntKind.i64.wrap ((h : Int) + 1) = (h : Int) + 1 := wrap_i64 (by omega) (by omega)
      have hhl : h < l.length := by omega
      have hhI : (h : Int) < l.length := by omega
      obtain ⟨x, hx⟩ : ∃ x, l[h]? = some x := ⟨_, List.getElem?_eq_getElem hhl⟩
      have htk : List.take 4 (enc x) = enc x := List.take_of_length_le (Nat.le_of_eq (he x))
      have hex := he x
      have hcall := hf x (List.mem_of_getElem? hx) (upd H nb (.r 54 3 1 [ts]))
      simp only [push_cast, seval] at hcall
      replace hh := Lib.hid hh
      clear hf
      by_cases hc : c x < 0
      · repeat' (first
    | refine AW_seq_kn fun K hK => ?_
    | refine AW_block ?_
    | (refine does_call_f rfl (by simp only [push_cast, seval]; rfl) ?_; simp only [push_cast, seval, *]; refine hcall.mono ?_; (rintro _ _ ⟨rfl, e2⟩; have e3 := e2.symm; clear e2; subst e3); (try simp only [push_cast, seval, *]))
    | ((first
      | refine AW_region_draw (id := 5) E0 (fun f => [].contains f) dLTB0 dATB0 mixed (by kernel_rfl) ?_
      | refine AW_region_draw (id := 8) E0 (fun f => [].contains f) dLTB1 dATB1 mixed (by kernel_rfl) ?_
      | refine AW_region E0 ?_ | refine AW_ret ?_ | refine AW_exit ?_ | refine AW_skip ?_ | unfold retQ); try simp only [push_cast, seval, *])
    | ((first | (apply AW_cond; (case hc => (simp only [push_cast, seval]; rfl))) | (apply ER_guard; (case hb => (simp only [push_cast, seval]; rfl)))); all_goals ((intro hc; first | (exfalso; simp only [push_cast, seval, *] at hc; done) | (exact absurd hc (by decide)) | ((try first | rw [Bool.not_true] at hc | rw [Bool.not_false] at hc); first | (with_reducible replace hc := tTT hc); clear hc | (with_reducible replace hc := tFF hc); clear hc | (have hp := hc; try simp only [decide_eq_true_eq, decide_eq_false_iff_not, bA, bB, bC, bD, bE, bF, bG, bH] at hp))) <;> try simp only [push_cast, seval, *]))
    | (refine Kn.go hK ?_; clear hK K)
    | refine Kn.go (by assumption) ?_
    | (intro n hn; (try simp only [upd_none2, join_none_iff, ite_none, ne_eq] at hn); (try simp only [push_cast, seval, *]))
    | (intro hc)
    | (apply ER_blk; (case hp => rfl); (case hb => (simp only [push_cast, seval]; rfl)); (case hd => (simp only [push_cast, seval]; done)); (case h => (intro hc; simp only [push_cast, seval, *]; rfl)); simp only [push_cast, seval, *])
    | fail)
        have := unhid hup h x hx hc
        exact ⟨(h + 1, j), ⟨by simp only; omega, hj, hjl⟩, by (first | trivial | (simp only [push_cast, seval, *]; done)), by have := unhid hh; simp only; omega⟩
      · repeat' (first
    | refine AW_seq_kn fun K hK => ?_
    | refine AW_block ?_
    | (refine does_call_f rfl (by simp only [push_cast, seval]; rfl) ?_; simp only [push_cast, seval, *]; refine hcall.mono ?_; (rintro _ _ ⟨rfl, e2⟩; have e3 := e2.symm; clear e2; subst e3); (try simp only [push_cast, seval, *]))
    | ((first
      | refine AW_region_draw (id := 5) E0 (fun f => [].contains f) dLTB0 dATB0 mixed (by kernel_rfl) ?_
      | refine AW_region_draw (id := 8) E0 (fun f => [].contains f) dLTB1 dATB1 mixed (by kernel_rfl) ?_
      | refine AW_region E0 ?_ | refine AW_ret ?_ | refine AW_exit ?_ | refine AW_skip ?_ | unfold retQ); try simp only [push_cast, seval, *])
    | ((first | (apply AW_cond; (case hc => (simp only [push_cast, seval]; rfl))) | (apply ER_guard; (case hb => (simp only [push_cast, seval]; rfl)))); all_goals ((intro hc; first | (exfalso; simp only [push_cast, seval, *] at hc; done) | (exact absurd hc (by decide)) | ((try first | rw [Bool.not_true] at hc | rw [Bool.not_false] at hc); first | (with_reducible replace hc := tTT hc); clear hc | (with_reducible replace hc := tFF hc); clear hc | (have hp := hc; try simp only [decide_eq_true_eq, decide_eq_false_iff_not, bA, bB, bC, bD, bE, bF, bG, bH] at hp))) <;> try simp only [push_cast, seval, *]))
    | (refine Kn.go hK ?_; clear hK K)
    | refine Kn.go (by assumption) ?_
    | (intro n hn; (try simp only [upd_none2, join_none_iff, ite_none, ne_eq] at hn); (try simp only [push_cast, seval, *]))
    | (intro hc)
    | (apply ER_blk; (case hp => rfl); (case hb => (simp only [push_cast, seval]; rfl)); (case hd => (simp only [push_cast, seval]; done)); (case h => (intro hc; simp only [push_cast, seval, *]; rfl)); simp only [push_cast, seval, *])
    | fail)
        have := unhid hdn h x hx hc
        exact ⟨(i, h), ⟨hi, this, by simp only; omega⟩, by (first | trivial | (simp only [push_cast, seval, *]; done)), by have := unhid hh; simp only; omega⟩
    · have hijF : ¬ (i : Int) < j := by omega
      obtain rfl : i = lb := by omega
      clear hup hdn hi hj
      by_cases hl2 : i < l.length
      · have hl2I : (i : Int) < l.length := by omega
        obtain ⟨x, hx⟩ : ∃ x, l[i]? = some x := ⟨_, List.getElem?_eq_getElem hl2⟩
        have htk : List.take 4 (enc x) = enc x := List.take_of_length_le (Nat.le_of_eq (he x))
        have hex := he x
        have hcall := hf x (List.mem_of_getElem? hx) (upd H nb (.r 54 3 1 [ts]))
        simp only [push_cast, seval] at hcall
        clear hf
        repeat' (first
    | refine AW_seq_kn fun K hK => ?_
    | refine AW_block ?_
    | (refine does_call_f rfl (by simp only [push_cast, seval]; rfl) ?_; simp only [push_cast, seval, *]; refine hcall.mono ?_; (rintro _ _ ⟨rfl, e2⟩; have e3 := e2.symm; clear e2; subst e3); (try simp only [push_cast, seval, *]))
    | ((first
      | refine AW_region_draw (id := 5) E0 (fun f => [].contains f) dLTB0 dATB0 mixed (by kernel_rfl) ?_
      | refine AW_region_draw (id := 8) E0 (fun f => [].contains f) dLTB1 dATB1 mixed (by kernel_rfl) ?_
      | refine AW_region E0 ?_ | refine AW_ret ?_ | refine AW_exit ?_ | refine AW_skip ?_ | unfold retQ); try simp only [push_cast, seval, *])
    | ((first | (apply AW_cond; (case hc => (simp only [push_cast, seval]; rfl))) | (apply ER_guard; (case hb => (simp only [push_cast, seval]; rfl)))); all_goals ((intro hc; first | (exfalso; simp only [push_cast, seval, *] at hc; done) | (exact absurd hc (by decide)) | ((try first | rw [Bool.not_true] at hc | rw [Bool.not_false] at hc); first | (with_reducible replace hc := tTT hc); clear hc | (with_reducible replace hc := tFF hc); clear hc | (have hp := hc; try simp only [decide_eq_true_eq, decide_eq_false_iff_not, bA, bB, bC, bD, bE, bF, bG, bH] at hp))) <;> try simp only [push_cast, seval, *]))
    | (refine Kn.go hK ?_; clear hK K)
    | refine Kn.go (by assumption) ?_
    | (intro n hn; (try simp only [upd_none2, join_none_iff, ite_none, ne_eq] at hn); (try simp only [push_cast, seval, *]))
    | (intro hc)
    | (apply ER_blk; (case hp => rfl); (case hb => (simp only [push_cast, seval]; rfl)); (case hd => (simp only [push_cast, seval]; done)); (case h => (intro hc; simp only [push_cast, seval, *]; rfl)); simp only [push_cast, seval, *])
    | fail)
        exact ⟨_, _, Weak.less (by (simp only [push_cast, seval, *])), by rw [unhid hbs i x rfl hx], rfl⟩
      · have hl2I : ¬ (i : Int) < l.length := by omega
        have hx : l[i]? = none := List.getElem?_eq_none (by omega)
        repeat' (first
    | refine AW_seq_kn fun K hK => ?_
    | refine AW_block ?_
    | ((first
      | refine AW_region_draw (id := 5) E0 (fun f => [].contains f) dLTB0 dATB0 mixed (by kernel_rfl) ?_
      | refine AW_region_draw (id := 8) E0 (fun f => [].contains f) dLTB1 dATB1 mixed (by kernel_rfl) ?_
      | refine AW_region E0 ?_ | refine AW_ret ?_ | refine AW_exit ?_ | refine AW_skip ?_ | unfold retQ); try simp only [push_cast, seval, *])
    | ((first | (apply AW_cond; (case hc => (simp only [push_cast, seval]; rfl))) | (apply ER_guard; (case hb => (simp only [push_cast, seval]; rfl)))); all_goals ((intro hc; first | (exfalso; simp only [push_cast, seval, *] at hc; done) | (exact absurd hc (by decide)) | ((try first | rw [Bool.not_true] at hc | rw [Bool.not_false] at hc); first | (with_reducible replace hc := tTT hc); clear hc | (with_reducible replace hc := tFF hc); clear hc | (have hp := hc; try simp only [decide_eq_true_eq, decide_eq_false_iff_not, bA, bB, bC, bD, bE, bF, bG, bH] at hp))) <;> try simp only [push_cast, seval, *]))
    | (refine Kn.go hK ?_; clear hK K)
    | refine Kn.go (by assumption) ?_
    | (intro n hn; (try simp only [upd_none2, join_none_iff, ite_none, ne_eq] at hn); (try simp only [push_cast, seval, *]))
    | (intro hc)
    | (apply ER_blk; (case hp => rfl); (case hb => (simp only [push_cast, seval]; rfl)); (case hd => (simp only [push_cast, seval]; done)); (case h => (intro hc; simp only [push_cast, seval, *]; rfl)); simp only [push_cast, seval, *])
    | fail)
        exact ⟨_, _, Weak.less (by (simp only [push_cast, seval, *])), by rw [unhid hbn i rfl hx], rfl⟩

end Go.Proofs.Ytmkncbddjnaklaa
