/- Walks: why a name can't be committed. -/
import Derived.Test.YtdeckjoeggmagaaI
import Derived.Test.YtdeckjoeggmagaaLN
namespace Go.Proofs.Ytdeckjoeggmagaa
open Go.RowKit
open Nat renaming reduceEqDiff → nA, reduceLT → nB, reduceLeDiff → nC, reduceAdd → nD, reduceMul → nE, reduceSub → nF, reduceBEq → nG
open Int renaming reduceToNat → iA, reduceLT → iB, reduceLE → iC, reduceEq → iD
open Bool renaming and_eq_true → bA, or_eq_true → bB, or_eq_false_iff → bC, and_eq_false_iff → bD, not_eq_true' → bE, not_eq_false' → bF, not_true → bG, not_false → bH
set_option linter.all false
set_option maxHeartbeats 4000000
attribute [local irreducible] AW Does ACall tE tS tB tZ
def dLK0 : List En := [(0, false, []), (1, false, []), (2, false, []), (3, false, []), (4, false, []), (5, false, []), (6, false, []), (7, false, []), (8, false, []), (9, false, []), (10, false, [])]
def dAK0 : List (List Nat) := [[], [0], [0, 1], [0, 1, 2], [], [0, 1, 2, 3, 4], [0, 1, 2, 3, 4, 5], [0, 1, 2, 3, 4, 5, 6], [0, 1, 2, 3, 4, 5, 6], [0, 1, 2, 3, 4, 5, 6, 7], [0, 1, 2, 3, 4, 5, 6, 7, 8, 9]]
attribute [push_cast] dLK0
set_option maxRecDepth 5000

def ahead (v : Nm) (names : List Nm) (x : Tx) : Bool := decide (x.nm.s = v.s) && decide (x.st = 2) && !decide (x.nm ∈ names)
def stopsE (a : List Tx) (v : Nm) (names : List Nm) : Int := if atB a v = false then 4 else if ¬ (txAt a v).st = 2 then 261 else if (a.take (atI a v)).any (ahead v names) = true then 262 else 0
/-- rows of transactions that lie open -/
def Opened (x1 : AV) (a : List Tx) (M : Heap) : Prop := ∀ (i : Nat) (t : Tx), a[i]? = some t → ∃ (np cap : Nat) (L : List (AV × Tx)), x1 = .s np 5 0 a.length cap ∧ M np = some (.r 86 5 cap (L.map encX)) ∧ L.map Prod.snd = a
theorem stops_a (a : List Tx) (hal : a.length ≤ 24) (hr : RiseT a) (v : Nm) (names : List Nm) (lo : List (ME Nm)) (ck : Nat) (hs : SetN names lo) (x1 x2 x3 : AV) (M : Heap) (nb e : Nat) (hb : M nb = some (bxL x1 x2 x3)) (hm : M e = some (bm kN lo ck M0)) (hl : Lent M x1 (.l 5 (a.map Tx.av))) (hop : Opened x1 a M) :
    ACall Try.prog 77 [.p nb 3 0 0, .g (Nm.av v), .c (.map (some e))] M fun r H' => r = .c (.int .i64 (stopsE a v names)) ∧ H' = M := by
  have hat := fun G (hG : Heap.le M G) => at_l (A := G) (by omega) hr v (hl.mono hG)
  have hE : stopsE a v names = if atB a v = false then 4 else if ¬ (txAt a v).st = 2 then 261 else if (a.take (atI a v)).any (ahead v names) = true then 262 else 0 := rfl
  have htr := fun h => at_true (l := a) (v := v) h
  unfold txAt at hE
  generalize stopsE a v names = E at *
  generalize atI a v = i at *
  generalize atB a v = B at *
  obtain ⟨vs, va, vn⟩ := v
  have hnv : Nm.av ⟨vs, va, vn⟩ = [.c (.int .i64 vs), .c (.int .i64 va), .c (.int .i64 vn)] := rfl
  simp only [hnv] at hat ⊢
  have ob := ne_old hb
  have oe := ne_old hm
  have hEU := tU109
  replace hat := Lib.hid hat
  cases B
  · rw [if_pos rfl] at hE
    subst hE
    clear htr hs hl hop
    refine ACall_of' Try.func77 rfl (Ent_of Try.func77 (by kernel_rfl) rfl) (by simp [Try.ntmps77]) ?_; simp only [Try.ntmps77, Try.results77]
    repeat' (first
    | refine AW_seq_kn fun K hK => ?_
    | refine AW_block ?_
    | (refine does_call rfl rfl ?_; simp only [push_cast, seval, *]; refine ACall.monoP (unhid hat _ (le_upd_new hn)) ?_; (try simp only [push_cast, seval, *]))
    | ((first
      | refine AW_region_draw (id := 1) E0 (fun f => [].contains f) dLK0 dAK0 mixed (by kernel_rfl) ?_
      | refine AW_region E0 ?_ | refine AW_ret ?_ | refine AW_exit ?_ | refine AW_skip ?_ | unfold retQ); try simp only [push_cast, seval, *])
    | ((first | (apply AW_cond; (case hc => (simp only [push_cast, seval]; rfl))) | (apply ER_guard; (case hb => (simp only [push_cast, seval]; rfl)))); all_goals ((intro hc; first | (exfalso; simp only [push_cast, seval, *] at hc; done) | (exact absurd hc (by decide)) | ((try first | rw [Bool.not_true] at hc | rw [Bool.not_false] at hc); first | (with_reducible replace hc := tTT hc); clear hc | (with_reducible replace hc := tFF hc); clear hc | (have hp := hc; try simp only [decide_eq_true_eq, decide_eq_false_iff_not, bA, bB, bC, bD, bE, bF, bG, bH] at hp))) <;> try simp only [push_cast, seval, *]))
    | (refine Kn.go hK ?_; clear hK K)
    | refine Kn.go (by assumption) ?_
    | (intro n hn; (try simp only [upd_none2, join_none_iff, ite_none, ne_eq] at hn); (try simp only [push_cast, seval, *]))
    | (intro hc)
    | (apply ER_blk; (case hp => rfl); (case hb => (simp only [push_cast, seval]; rfl)); (case hd => (simp only [push_cast, seval]; done)); (case h => (intro hc; simp only [push_cast, seval, *]; rfl)); simp only [push_cast, seval, *])
    | fail)
    exact ⟨_, _, Weak.less (le_upd_new hn), rfl, rfl⟩
  rw [if_neg (by decide)] at hE
  obtain ⟨t, ht, htn⟩ := htr rfl
  rw [ht] at hE
  simp only [Option.getD_some] at hE
  obtain ⟨np, cap, L, rfl, hnp, hLa⟩ := hop i t ht
  have op := ne_old hnp
  have hget : ∀ (k : Nat) (x : Tx), a[k]? = some x → ∃ y, (L.map encX)[k]? = some (encX (y, x)) := fun k x hx => by
    have hq : (L[k]?).map Prod.snd = some x := by rw [← List.getElem?_map, hLa]; exact hx
    obtain ⟨⟨y, t'⟩, hq1, rfl⟩ := Option.map_eq_some_iff.1 hq
    exact ⟨y, by rw [List.getElem?_map, hq1]; rfl⟩
  have hRl : (L.map encX).length = a.length := by rw [← hLa]; simp
  generalize L.map encX = R at *
  obtain ⟨y, hRi⟩ := hget i t ht
  have hia : i < a.length := (List.getElem?_eq_some_iff.1 ht).1
  have hiI : (i : Int) < a.length := by omega
  obtain ⟨⟨ts, ta, tn⟩, tst, trs⟩ := t
  simp only at hE
  simp only [encX] at hRi
  replace hget := Lib.hid hget
  clear hl hop htn htr ht hLa
  by_cases hst : tst = 2
  rotate_left
  · rw [if_pos hst] at hE
    subst hE
    clear hs
    refine ACall_of' Try.func77 rfl (Ent_of Try.func77 (by kernel_rfl) rfl) (by simp [Try.ntmps77]) ?_; simp only [Try.ntmps77, Try.results77]
    repeat' (first
    | refine AW_seq_kn fun K hK => ?_
    | refine AW_block ?_
    | (refine does_call rfl rfl ?_; simp only [push_cast, seval, *]; refine ACall.monoP (unhid hat _ (le_upd_new hn)) ?_; (try simp only [push_cast, seval, *]))
    | ((first
      | refine AW_region_draw (id := 1) E0 (fun f => [].contains f) dLK0 dAK0 mixed (by kernel_rfl) ?_
      | refine AW_region E0 ?_ | refine AW_ret ?_ | refine AW_exit ?_ | refine AW_skip ?_ | unfold retQ); try simp only [push_cast, seval, *])
    | ((first | (apply AW_cond; (case hc => (simp only [push_cast, seval]; rfl))) | (apply ER_guard; (case hb => (simp only [push_cast, seval]; rfl)))); all_goals ((intro hc; first | (exfalso; simp only [push_cast, seval, *] at hc; done) | (exact absurd hc (by decide)) | ((try first | rw [Bool.not_true] at hc | rw [Bool.not_false] at hc); first | (with_reducible replace hc := tTT hc); clear hc | (with_reducible replace hc := tFF hc); clear hc | (have hp := hc; try simp only [decide_eq_true_eq, decide_eq_false_iff_not, bA, bB, bC, bD, bE, bF, bG, bH] at hp))) <;> try simp only [push_cast, seval, *]))
    | (refine Kn.go hK ?_; clear hK K)
    | refine Kn.go (by assumption) ?_
    | (intro n hn; (try simp only [upd_none2, join_none_iff, ite_none, ne_eq] at hn); (try simp only [push_cast, seval, *]))
    | (intro hc)
    | (apply ER_blk; (case hp => rfl); (case hb => (simp only [push_cast, seval]; rfl)); (case hd => (simp only [push_cast, seval]; done)); (case h => (intro hc; simp only [push_cast, seval, *]; rfl)); simp only [push_cast, seval, *])
    | fail)
    exact ⟨_, _, Weak.less (le_upd_new hn), rfl, rfl⟩
  rw [if_neg (fun h => h hst)] at hE
  replace hE := Lib.hid hE
  refine ACall.blk (Ent_of Try.func77 (by kernel_rfl) rfl) hnp fun hcap hmax _ _ => ?_
  have hiC : (i : Int) ≤ cap := by omega
  have hmw := hs.mw
  have hlk := fun x => hs.v x
  replace hmw := Lib.hid hmw
  replace hlk := Lib.hid hlk
  clear hs
  refine ACall_of' Try.func77 rfl (Ent_of Try.func77 (by kernel_rfl) rfl) (by simp [Try.ntmps77]) ?_; simp only [Try.ntmps77, Try.results77]
  repeat' (first
    | refine AW_seq_kn fun K hK => ?_
    | refine AW_block ?_
    | (refine does_call rfl rfl ?_; simp only [push_cast, seval, *]; refine ACall.monoP (unhid hat _ (le_upd_new hn)) ?_; (try simp only [push_cast, seval, *]))
    | ((first
      | refine AW_region_draw (id := 1) E0 (fun f => [].contains f) dLK0 dAK0 mixed (by kernel_rfl) ?_
      | refine AW_region E0 ?_ | refine AW_ret ?_ | refine AW_exit ?_ | refine AW_skip ?_ | unfold retQ); try simp only [push_cast, seval, *])
    | ((first | (apply AW_cond; (case hc => (simp only [push_cast, seval]; rfl))) | (apply ER_guard; (case hb => (simp only [push_cast, seval]; rfl)))); all_goals ((intro hc; first | (exfalso; simp only [push_cast, seval, *] at hc; done) | (exact absurd hc (by decide)) | ((try first | rw [Bool.not_true] at hc | rw [Bool.not_false] at hc); first | (with_reducible replace hc := tTT hc); clear hc | (with_reducible replace hc := tFF hc); clear hc | (have hp := hc; try simp only [decide_eq_true_eq, decide_eq_false_iff_not, bA, bB, bC, bD, bE, bF, bG, bH] at hp))) <;> try simp only [push_cast, seval, *]))
    | (refine Kn.go hK ?_; clear hK K)
    | refine Kn.go (by assumption) ?_
    | (intro n hn; (try simp only [upd_none2, join_none_iff, ite_none, ne_eq] at hn); (try simp only [push_cast, seval, *]))
    | (intro hc)
    | (apply ER_blk; (case hp => rfl); (case hb => (simp only [push_cast, seval]; rfl)); (case hd => (simp only [push_cast, seval]; done)); (case h => (intro hc; simp only [push_cast, seval, *]; rfl)); simp only [push_cast, seval, *])
    | fail)
  generalize n = nv at *
  have gnv : M nv = none := hn
  refine AW_loopN i (fun k => ((a.take i).drop k).any (ahead ⟨vs, va, vn⟩ names) = (a.take i).any (ahead ⟨vs, va, vn⟩ names)) (fun k => [(2, .c (.map (some e))), (4, .p nv 3 0 0), (38, .s np 5 0 i cap), (39, ci i), (40, ci k)]) (fun _ => upd M nv (.r 26 3 1 [[.c (.int .i64 vs), .c (.int .i64 va), .c (.int .i64 vn)]])) (by rw [List.drop_zero]) ?_ ?_ ?_ ?_
  · (first | trivial | (simp only [push_cast, seval, *]; done))
  · exact Heap.le_refl _
  · intro k hk hinv
    have hkI : (k : Int) < i := by omega
    have hkw : IntKind.i64.wrap ((k : Int) + 1) = (k : Int) + 1 := wrap_i64 (by omega) (by omega)
    obtain ⟨x, hx⟩ : ∃ x, a[k]? = some x := ⟨_, List.getElem?_eq_getElem (by omega)⟩
    obtain ⟨y2, hRk⟩ := unhid hget k x hx
    have hx2 : (a.take i)[k]? = some x := by rw [List.getElem?_take, if_pos hk]; exact hx
    rw [drop_get hx2, List.any_cons] at hinv
    have hlk2 := unhid hlk x.nm
    obtain ⟨⟨xs, xa, xn⟩, xst, xrs⟩ := x
    simp only [encX] at hRk
    simp only [ahead] at hinv
    simp only at hlk2
    have hIs : IsK (.g [.c (.int .i64 xs), .c (.int .i64 xa), .c (.int .i64 xn)]) (kN ⟨xs, xa, xn⟩) := IsK.g (u3 ⟨xs, xa, xn⟩)
    generalize hmem : decide ((⟨xs, xa, xn⟩ : Nm) ∈ names) = mem at hinv hlk2
    replace hIs := Lib.hid hIs
    replace hlk2 := Lib.hid hlk2
    clear hlk hget hat hmem hx hx2 hRi
    by_cases c1 : xs = vs
    rotate_left
    · rw [decide_eq_false c1] at hinv
      simp only [Bool.false_and, Bool.false_or] at hinv
      replace hinv := Lib.hid hinv
      repeat' (first
    | refine AW_seq_kn fun K hK => ?_
    | refine AW_block ?_
    | ((first
      | refine AW_region_draw (id := 1) E0 (fun f => [].contains f) dLK0 dAK0 mixed (by kernel_rfl) ?_
      | refine AW_region E0 ?_ | refine AW_ret ?_ | refine AW_exit ?_ | refine AW_skip ?_ | unfold retQ); try simp only [push_cast, seval, *])
    | ((first | (apply AW_cond; (case hc => (simp only [push_cast, seval]; rfl))) | (apply ER_guard; (case hb => (simp only [push_cast, seval]; rfl)))); all_goals ((intro hc; first | (exfalso; simp only [push_cast, seval, *] at hc; done) | (exact absurd hc (by decide)) | ((try first | rw [Bool.not_true] at hc | rw [Bool.not_false] at hc); first | (with_reducible replace hc := tTT hc); clear hc | (with_reducible replace hc := tFF hc); clear hc | (have hp := hc; try simp only [decide_eq_true_eq, decide_eq_false_iff_not, bA, bB, bC, bD, bE, bF, bG, bH] at hp))) <;> try simp only [push_cast, seval, *]))
    | (refine Kn.go hK ?_; clear hK K)
    | refine Kn.go (by assumption) ?_
    | (intro n hn; (try simp only [upd_none2, join_none_iff, ite_none, ne_eq] at hn); (try simp only [push_cast, seval, *]))
    | (intro hc)
    | (apply ER_blk; (case hp => rfl); (case hb => (simp only [push_cast, seval]; rfl)); (case hd => (simp only [push_cast, seval]; done)); (case h => (intro hc; simp only [push_cast, seval, *]; rfl)); simp only [push_cast, seval, *])
    | fail)
      exact ⟨unhid hinv, by (first | trivial | (simp only [push_cast, seval, *]; done)), by first | trivial | (repeat' (first | exact Heap.le_refl _ | refine hle_upd2 ?_ _ _ | (refine Heap.le_new ?_ ?_; rotate_left 1; focus (first | assumption | (simp only [upd_none2, upd_get, ne_eq, push_cast, seval, *]; done) | (simp [upd_get, *]; done)))))⟩
    by_cases c2 : xst = 2
    rotate_left
    · rw [decide_eq_false c2] at hinv
      simp only [Bool.and_false, Bool.false_and, Bool.false_or] at hinv
      replace hinv := Lib.hid hinv
      repeat' (first
    | refine AW_seq_kn fun K hK => ?_
    | refine AW_block ?_
    | ((first
      | refine AW_region_draw (id := 1) E0 (fun f => [].contains f) dLK0 dAK0 mixed (by kernel_rfl) ?_
      | refine AW_region E0 ?_ | refine AW_ret ?_ | refine AW_exit ?_ | refine AW_skip ?_ | unfold retQ); try simp only [push_cast, seval, *])
    | ((first | (apply AW_cond; (case hc => (simp only [push_cast, seval]; rfl))) | (apply ER_guard; (case hb => (simp only [push_cast, seval]; rfl)))); all_goals ((intro hc; first | (exfalso; simp only [push_cast, seval, *] at hc; done) | (exact absurd hc (by decide)) | ((try first | rw [Bool.not_true] at hc | rw [Bool.not_false] at hc); first | (with_reducible replace hc := tTT hc); clear hc | (with_reducible replace hc := tFF hc); clear hc | (have hp := hc; try simp only [decide_eq_true_eq, decide_eq_false_iff_not, bA, bB, bC, bD, bE, bF, bG, bH] at hp))) <;> try simp only [push_cast, seval, *]))
    | (refine Kn.go hK ?_; clear hK K)
    | refine Kn.go (by assumption) ?_
    | (intro n hn; (try simp only [upd_none2, join_none_iff, ite_none, ne_eq] at hn); (try simp only [push_cast, seval, *]))
    | (intro hc)
    | (apply ER_blk; (case hp => rfl); (case hb => (simp only [push_cast, seval]; rfl)); (case hd => (simp only [push_cast, seval]; done)); (case h => (intro hc; simp only [push_cast, seval, *]; rfl)); simp only [push_cast, seval, *])
    | fail)
      exact ⟨unhid hinv, by (first | trivial | (simp only [push_cast, seval, *]; done)), by first | trivial | (repeat' (first | exact Heap.le_refl _ | refine hle_upd2 ?_ _ _ | (refine Heap.le_new ?_ ?_; rotate_left 1; focus (first | assumption | (simp only [upd_none2, upd_get, ne_eq, push_cast, seval, *]; done) | (simp [upd_get, *]; done)))))⟩
    rw [decide_eq_true c1, decide_eq_true c2] at hinv
    cases mem
    · have hEv := unhid hE
      simp only [Bool.true_and, Bool.not_false, Bool.true_or] at hinv
      rw [if_pos hinv.symm] at hEv
      subst hEv
      clear hinv hE
      repeat' (first
    | refine AW_seq_kn fun K hK => ?_
    | refine AW_block ?_
    | (refine does_lookupV (enc := kN) (n := e) (l := lo) (c := ck) (M := M0) (k := ⟨xs, xa, xn⟩) (z := .bool false) (zA := .c (.bool false)) kkN rfl (by simp only [push_cast, seval, *]) (by simp only [push_cast, seval, *]) (unhid hmw) hEU zero_bool (fun _ => .c _) (by simp only [push_cast, seval, *]; first | exact unhid hIs | (rw [← c1]; exact unhid hIs)) (unhid hlk2) ?_; (try simp only [push_cast, seval, *]))
    | ((first
      | refine AW_region_draw (id := 1) E0 (fun f => [].contains f) dLK0 dAK0 mixed (by kernel_rfl) ?_
      | refine AW_region E0 ?_ | refine AW_ret ?_ | refine AW_exit ?_ | refine AW_skip ?_ | unfold retQ); try simp only [push_cast, seval, *])
    | ((first | (apply AW_cond; (case hc => (simp only [push_cast, seval]; rfl))) | (apply ER_guard; (case hb => (simp only [push_cast, seval]; rfl)))); all_goals ((intro hc; first | (exfalso; simp only [push_cast, seval, *] at hc; done) | (exact absurd hc (by decide)) | ((try first | rw [Bool.not_true] at hc | rw [Bool.not_false] at hc); first | (with_reducible replace hc := tTT hc); clear hc | (with_reducible replace hc := tFF hc); clear hc | (have hp := hc; try simp only [decide_eq_true_eq, decide_eq_false_iff_not, bA, bB, bC, bD, bE, bF, bG, bH] at hp))) <;> try simp only [push_cast, seval, *]))
    | (refine Kn.go hK ?_; clear hK K)
    | refine Kn.go (by assumption) ?_
    | (intro n hn; (try simp only [upd_none2, join_none_iff, ite_none, ne_eq] at hn); (try simp only [push_cast, seval, *]))
    | (intro hc)
    | (apply ER_blk; (case hp => rfl); (case hb => (simp only [push_cast, seval]; rfl)); (case hd => (simp only [push_cast, seval]; done)); (case h => (intro hc; simp only [push_cast, seval, *]; rfl)); simp only [push_cast, seval, *])
    | fail)
      exact ⟨_, _, Weak.less (by repeat' (first | exact Heap.le_refl _ | exact le_upd_new hn | refine le_skip ?_ (by first | exact gnv | exact hn | exact hn.2))), rfl, rfl⟩
    · simp only [Bool.true_and, Bool.not_true, Bool.false_or] at hinv
      replace hinv := Lib.hid hinv
      repeat' (first
    | refine AW_seq_kn fun K hK => ?_
    | refine AW_block ?_
    | (refine does_lookupV (enc := kN) (n := e) (l := lo) (c := ck) (M := M0) (k := ⟨xs, xa, xn⟩) (z := .bool false) (zA := .c (.bool false)) kkN rfl (by simp only [push_cast, seval, *]) (by simp only [push_cast, seval, *]) (unhid hmw) hEU zero_bool (fun _ => .c _) (by simp only [push_cast, seval, *]; first | exact unhid hIs | (rw [← c1]; exact unhid hIs)) (unhid hlk2) ?_; (try simp only [push_cast, seval, *]))
    | ((first
      | refine AW_region_draw (id := 1) E0 (fun f => [].contains f) dLK0 dAK0 mixed (by kernel_rfl) ?_
      | refine AW_region E0 ?_ | refine AW_ret ?_ | refine AW_exit ?_ | refine AW_skip ?_ | unfold retQ); try simp only [push_cast, seval, *])
    | ((first | (apply AW_cond; (case hc => (simp only [push_cast, seval]; rfl))) | (apply ER_guard; (case hb => (simp only [push_cast, seval]; rfl)))); all_goals ((intro hc; first | (exfalso; simp only [push_cast, seval, *] at hc; done) | (exact absurd hc (by decide)) | ((try first | rw [Bool.not_true] at hc | rw [Bool.not_false] at hc); first | (with_reducible replace hc := tTT hc); clear hc | (with_reducible replace hc := tFF hc); clear hc | (have hp := hc; try simp only [decide_eq_true_eq, decide_eq_false_iff_not, bA, bB, bC, bD, bE, bF, bG, bH] at hp))) <;> try simp only [push_cast, seval, *]))
    | (refine Kn.go hK ?_; clear hK K)
    | refine Kn.go (by assumption) ?_
    | (intro n hn; (try simp only [upd_none2, join_none_iff, ite_none, ne_eq] at hn); (try simp only [push_cast, seval, *]))
    | (intro hc)
    | (apply ER_blk; (case hp => rfl); (case hb => (simp only [push_cast, seval]; rfl)); (case hd => (simp only [push_cast, seval]; done)); (case h => (intro hc; simp only [push_cast, seval, *]; rfl)); simp only [push_cast, seval, *])
    | fail)
      exact ⟨unhid hinv, by (first | trivial | (simp only [push_cast, seval, *]; done)), by first | trivial | (repeat' (first | exact Heap.le_refl _ | refine hle_upd2 ?_ _ _ | (refine Heap.le_new ?_ ?_; rotate_left 1; focus (first | assumption | (simp only [upd_none2, upd_get, ne_eq, push_cast, seval, *]; done) | (simp [upd_get, *]; done)))))⟩
  · intro hinv
    have hEv := unhid hE
    rw [List.drop_of_length_le (by rw [List.length_take]; omega), List.any_nil] at hinv
    rw [← hinv, if_neg (by decide)] at hEv
    subst hEv
    clear hinv hE hlk hget hat hRi
    repeat' (first
    | refine AW_seq_kn fun K hK => ?_
    | refine AW_block ?_
    | ((first
      | refine AW_region_draw (id := 1) E0 (fun f => [].contains f) dLK0 dAK0 mixed (by kernel_rfl) ?_
      | refine AW_region E0 ?_ | refine AW_ret ?_ | refine AW_exit ?_ | refine AW_skip ?_ | unfold retQ); try simp only [push_cast, seval, *])
    | ((first | (apply AW_cond; (case hc => (simp only [push_cast, seval]; rfl))) | (apply ER_guard; (case hb => (simp only [push_cast, seval]; rfl)))); all_goals ((intro hc; first | (exfalso; simp only [push_cast, seval, *] at hc; done) | (exact absurd hc (by decide)) | ((try first | rw [Bool.not_true] at hc | rw [Bool.not_false] at hc); first | (with_reducible replace hc := tTT hc); clear hc | (with_reducible replace hc := tFF hc); clear hc | (have hp := hc; try simp only [decide_eq_true_eq, decide_eq_false_iff_not, bA, bB, bC, bD, bE, bF, bG, bH] at hp))) <;> try simp only [push_cast, seval, *]))
    | (refine Kn.go hK ?_; clear hK K)
    | refine Kn.go (by assumption) ?_
    | (intro n hn; (try simp only [upd_none2, join_none_iff, ite_none, ne_eq] at hn); (try simp only [push_cast, seval, *]))
    | (intro hc)
    | (apply ER_blk; (case hp => rfl); (case hb => (simp only [push_cast, seval]; rfl)); (case hd => (simp only [push_cast, seval]; done)); (case h => (intro hc; simp only [push_cast, seval, *]; rfl)); simp only [push_cast, seval, *])
    | fail)
    exact ⟨_, _, Weak.less (by first | exact le_upd_new hn | exact le_upd_new (by assumption)), rfl, rfl⟩
end Go.Proofs.Ytdeckjoeggmagaa
