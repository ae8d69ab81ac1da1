/- Walks: Encode. -/
import Derived.Test.YtmkncbddjnaklaaUD
namespace Go.Proofs.Ytmkncbddjnaklaa
open Go.RowKit
open Nat renaming reduceEqDiff → nA, reduceLT → nB, reduceLeDiff → nC, reduceAdd → nD, reduceMul → nE, reduceSub → nF, reduceBEq → nG
open Int renaming reduceToNat → iA, reduceLT → iB, reduceLE → iC, reduceEq → iD
open Bool renaming and_eq_true → bA, or_eq_true → bB, or_eq_false_iff → bC, and_eq_false_iff → bD, not_eq_true' → bE, not_eq_false' → bF, not_true → bG, not_false → bH
set_option linter.all false
set_option maxHeartbeats 4000000
attribute [local irreducible] AW Does ACall tE tS tB tZ
def dLUE0 : List En := [(0, false, []), (1, false, []), (2, false, []), (3, false, []), (4, false, []), (6, false, []), (7, false, []), (8, true, []), (9, false, []), (5, false, [8]), (10, false, []), (11, false, [])]
def dAUE0 : List (List Nat) := [[], [], [1], [1, 2], [1, 2, 3], [0, 1, 2, 3, 4], [], [6], [6, 7], [6, 7, 8], [0, 1, 2, 3, 4, 5, 6, 7, 8, 9], [0, 1, 2, 3, 4, 5, 6, 7, 8, 9, 10]]
attribute [push_cast] dLUE0

def rowB (x : KC) : List Int := [x.s, x.k] ++ beB 8 (IntKind.u64.wrap x.n) ++ beB 8 (IntKind.u64.wrap x.t)
def encB (l : List KC) : List Int := beB 2 l.length ++ l.flatMap rowB
theorem rowB_len (x : KC) : (rowB x).length = 18 := by simp [rowB, beB_len]
theorem rows_len (l : List KC) : (l.flatMap rowB).length = 18 * l.length := by
  induction l with
  | nil => rfl
  | cons x l ih => rw [List.flatMap_cons, List.length_append, ih, rowB_len, List.length_cons]; omega
theorem encB_len (l : List KC) : (encB l).length = 2 + 18 * l.length := by rw [encB, List.length_append, beB_len, rows_len]
theorem u64_bd (x : Int) : 0 ≤ IntKind.u64.wrap x ∧ IntKind.u64.wrap x ≤ 18446744073709551615 := by
  rw [IntKind.wrap_u64]; omega
theorem tGo_ok : ∀ (l : List KC) (p : Option KC), tGo p l = true → ∀ x ∈ l, recOk (keyS x) = true ∧ 1 ≤ x.n
  | [], _, _, x, hx => by cases hx
  | y :: l, p, h, x, hx => by
    simp only [tGo, Bool.and_eq_true, decide_eq_true_eq] at h
    rcases List.mem_cons.1 hx with rfl | hx
    · exact ⟨h.1.1.1, h.1.1.2⟩
    · exact tGo_ok l (some y) h.2 x hx
def encE (l : List KC) : List Int × Int := if tOk l = true then (encB l, 0) else ([], 220)
theorem Encode_o (l : List KC) (hl : l.length ≤ 50000) (H : Heap) :
    ACall Try.prog 56 [.g [.l 4 (l.map KC.av)]] H fun q H' => ∃ y, q = .t [y, .c (.int .i64 (encE l).2)] ∧ OwnL H' y 5 1 ((encE l).1.map by1) H := by
  have hE : encE l = if tOk l = true then (encB l, 0) else ([], 220) := rfl
  have hch := tcheck_p l (by unfold maxLen; omega)
  have hmem := fun h => tGo_ok l none h
  have hen : encB l = beB 2 l.length ++ l.flatMap rowB := rfl
  generalize encE l = D at *
  obtain ⟨D1, D2⟩ := D
  cases ht : tOk l
  · rw [ht] at hch hE
    simp only [Bool.false_eq_true, if_false, if_true, vE220, Prod.mk.injEq] at hch hE
    obtain ⟨rfl, rfl⟩ := hE
    clear hmem hen
    refine ACall_of' Try.func56 rfl (Ent_of Try.func56 (by kernel_rfl) rfl) (by simp [Try.ntmps56]) ?_; simp only [Try.ntmps56, Try.results56]
    repeat' (first
    | refine AW_seq_kn fun K hK => ?_
    | refine AW_block ?_
    | (refine does_call rfl rfl ?_; simp only [push_cast, seval, *]; refine ACall.monoP (hch _) ?_; (try simp only [push_cast, seval, *]))
    | ((first
      | refine AW_region_draw (id := 9) E0 (fun f => [].contains f) dLUE0 dAUE0 mixed (by kernel_rfl) ?_
      | refine AW_region E0 ?_ | refine AW_ret ?_ | refine AW_exit ?_ | refine AW_skip ?_ | unfold retQ); try simp only [push_cast, seval, *])
    | (apply AW_cond; (case hc => (simp only [push_cast, seval]; rfl)); all_goals (intro hc; first | (exfalso; simp only [push_cast, seval, *] at hc; done) | (exact absurd hc (by decide)) | ((try first | rw [Bool.not_true] at hc | rw [Bool.not_false] at hc); first | (with_reducible replace hc := tTT hc); clear hc | (with_reducible replace hc := tFF hc); clear hc | (have hp := hc; try simp only [decide_eq_true_eq, decide_eq_false_iff_not, bA, bB, bC, bD, bE, bF, bG, bH] at hp))))
    | (refine Kn.go hK ?_; clear hK K)
    | refine Kn.go (by assumption) ?_
    | (intro n hn; (try simp only [upd_none2, join_none_iff, ite_none, ne_eq] at hn); (try simp only [push_cast, seval, *]))
    | (intro hc)
    | fail)
    exact ⟨_, H, Weak.less (by (simp only [push_cast, seval, *])), _, rfl, .inl ⟨⟨_, rfl⟩, rfl, rfl⟩⟩
  rw [ht] at hch hE
  simp only [if_true, vE0, Prod.mk.injEq] at hch hE
  obtain ⟨rfl, rfl⟩ := hE
  replace hmem := Lib.hid (hmem ht)
  have hw16 : IntKind.u16.wrap (l.length : Int) = (l.length : Int) := wrap_u16 (by omega) (by omega)
  have hput := fun H => Put16_nil (l.length : Int) (by omega) (by omega) H
  have hbl := beB_len 2 (l.length : Int)
  rw [hen]
  generalize beB 2 (l.length : Int) = A at *
  replace hput := Lib.hid hput
  clear hen ht
  refine ACall_of' Try.func56 rfl (Ent_of Try.func56 (by kernel_rfl) rfl) (by simp [Try.ntmps56]) ?_; simp only [Try.ntmps56, Try.results56]
  repeat' (first
    | refine AW_seq_kn fun K hK => ?_
    | refine AW_block ?_
    | (refine does_call rfl rfl ?_; simp only [push_cast, seval, *]; refine ACall.monoP (hch _) ?_; (try simp only [push_cast, seval, *]))
    | ((first
      | refine AW_region_draw (id := 9) E0 (fun f => [].contains f) dLUE0 dAUE0 mixed (by kernel_rfl) ?_
      | refine AW_region E0 ?_ | refine AW_ret ?_ | refine AW_exit ?_ | refine AW_skip ?_ | unfold retQ); try simp only [push_cast, seval, *])
    | (apply AW_cond; (case hc => (simp only [push_cast, seval]; rfl)); all_goals (intro hc; first | (exfalso; simp only [push_cast, seval, *] at hc; done) | (exact absurd hc (by decide)) | ((try first | rw [Bool.not_true] at hc | rw [Bool.not_false] at hc); first | (with_reducible replace hc := tTT hc); clear hc | (with_reducible replace hc := tFF hc); clear hc | (have hp := hc; try simp only [decide_eq_true_eq, decide_eq_false_iff_not, bA, bB, bC, bD, bE, bF, bG, bH] at hp))))
    | (refine Kn.go hK ?_; clear hK K)
    | refine Kn.go (by assumption) ?_
    | (intro n hn; (try simp only [upd_none2, join_none_iff, ite_none, ne_eq] at hn); (try simp only [push_cast, seval, *]))
    | (intro hc)
    | fail)
  refine does_call rfl rfl ?_
  simp only [push_cast, seval, *]
  refine ACall.mono (unhid hput _) ?_
  intro v B hown
  generalize n = n1 at *
  have hcs := hown.cs
  have g1 : upd H n1 (.r 49 1 1 [[.l 4 (l.map KC.av)]]) n1 = some (.r 49 1 1 [[.l 4 (l.map KC.av)]]) := upd_same _ _ _
  have k1 := hown.get g1
  have hH1 : Heap.le H (upd H n1 (.r 49 1 1 [[.l 4 (l.map KC.av)]])) := le_upd_new hn
  obtain ⟨G, hG⟩ : ∃ G : Heap, G = upd H n1 (.r 49 1 1 [[.l 4 (l.map KC.av)]]) := ⟨_, rfl⟩
  rw [← hG] at hown hH1
  clear hG g1 hch hput hn
  replace hH1 := Lib.hid hH1
  replace hown := Lib.hid hown
  (try simp only [push_cast, seval, *])
  repeat' (first
    | refine AW_seq_kn fun K hK => ?_
    | refine AW_block ?_
    | ((first
      | refine AW_region_draw (id := 9) E0 (fun f => [].contains f) dLUE0 dAUE0 mixed (by kernel_rfl) ?_
      | refine AW_region E0 ?_ | refine AW_ret ?_ | refine AW_exit ?_ | refine AW_skip ?_ | unfold retQ); try simp only [push_cast, seval, *])
    | (apply AW_cond; (case hc => (simp only [push_cast, seval]; rfl)); all_goals (intro hc; first | (exfalso; simp only [push_cast, seval, *] at hc; done) | (exact absurd hc (by decide)) | ((try first | rw [Bool.not_true] at hc | rw [Bool.not_false] at hc); first | (with_reducible replace hc := tTT hc); clear hc | (with_reducible replace hc := tFF hc); clear hc | (have hp := hc; try simp only [decide_eq_true_eq, decide_eq_false_iff_not, bA, bB, bC, bD, bE, bF, bG, bH] at hp))))
    | (refine Kn.go hK ?_; clear hK K)
    | refine Kn.go (by assumption) ?_
    | (intro n hn; (try simp only [upd_none2, join_none_iff, ite_none, ne_eq] at hn); (try simp only [push_cast, seval, *]))
    | (intro hc)
    | fail)
  refine AW_loopX (σ := AV × Heap) l.length (fun k w => OwnL w.2 w.1 5 1 ((A ++ (l.take k).flatMap rowB).map by1) G) (fun k w => [(5, w.1), (19, .l 4 (l.map KC.av)), (20, ci l.length), (21, ci k)]) (fun _ w => w.2) (v, B) (by simpa using unhid hown) ?_ ?_ ?_ ?_
  · (first | trivial | (simp only [push_cast, seval, *]; done))
  · exact Heap.le_refl _
  · clear hown k1 hcs
    rintro k ⟨v, B⟩ hk hown
    have hx := List.getElem?_eq_getElem (l := l) hk; generalize l[k] = x at hx; have hxm := List.mem_of_getElem? hx; have hkl : (k : Int) < l.length := (by omega); have hkw : IntKind.i64.wrap ((k : Int) + 1) = (k : Int) + 1 := wrap_i64 (by omega) (by omega)
    have hxo : (0 ≤ x.s ∧ x.s < 8) ∧ (0 ≤ x.k ∧ x.k < 32) := by
      have h : recOk ⟨x.s, x.k, 0⟩ = true := (unhid hmem x hxm).1
      simp only [recOk, Bool.and_eq_true, decide_eq_true_eq] at h
      omega
    have hrl := rows_len (l.take k)
    have hflat : (l.take (k + 1)).flatMap rowB = (l.take k).flatMap rowB ++ rowB x := by rw [take_snoc hx, List.flatMap_append]; simp
    rw [hflat]
    generalize (l.take k).flatMap rowB = R at *
    have hRl : R.length ≤ 18 * k := by rw [hrl, List.length_take]; omega
    have hcs := hown.cs
    obtain ⟨s, kk, cn, ct⟩ := x
    have hu1 := u64_bd cn
    have hu2 := u64_bd ct
    have hrow : rowB ⟨s, kk, cn, ct⟩ = [s, kk] ++ beB 8 (IntKind.u64.wrap cn) ++ beB 8 (IntKind.u64.wrap ct) := rfl
    rw [hrow]
    have hb1 := beB_len 8 (IntKind.u64.wrap cn)
    have hp1 := fun b hb v M M0 ho => Put64_l b hb (IntKind.u64.wrap cn) hu1.1 hu1.2 v M M0 ho
    have hp2 := fun b hb v M M0 ho => Put64_l b hb (IntKind.u64.wrap ct) hu2.1 hu2.2 v M M0 ho
    generalize beB 8 (IntKind.u64.wrap cn) = b1 at *
    generalize beB 8 (IntKind.u64.wrap ct) = b2 at *
    generalize hun : IntKind.u64.wrap cn = un at *
    generalize hut : IntKind.u64.wrap ct = ut at *
    simp only at hxo hown hcs
    have hty : List.take 4 (KC.av ⟨s, kk, cn, ct⟩) = KC.av ⟨s, kk, cn, ct⟩ := rfl
    have hs8 : IntKind.u8.wrap s = s := wrap_u8 (by omega) (by omega)
    have hk8 : IntKind.u8.wrap kk = kk := wrap_u8 (by omega) (by omega)
    replace hp1 := Lib.hid hp1
    replace hp2 := Lib.hid hp2
    replace hown := Lib.hid hown
    clear hxo hu1 hu2 hflat hrow hrl hxm hmem
    repeat' (first
    | refine AW_seq_kn fun K hK => ?_
    | refine AW_block ?_
    | ((first
      | refine AW_region_draw (id := 9) E0 (fun f => [].contains f) dLUE0 dAUE0 mixed (by kernel_rfl) ?_
      | refine AW_region E0 ?_ | refine AW_ret ?_ | refine AW_exit ?_ | refine AW_skip ?_ | unfold retQ); try simp only [push_cast, seval, *])
    | (apply AW_cond; (case hc => (simp only [push_cast, seval]; rfl)); all_goals (intro hc; first | (exfalso; simp only [push_cast, seval, *] at hc; done) | (exact absurd hc (by decide)) | ((try first | rw [Bool.not_true] at hc | rw [Bool.not_false] at hc); first | (with_reducible replace hc := tTT hc); clear hc | (with_reducible replace hc := tFF hc); clear hc | (have hp := hc; try simp only [decide_eq_true_eq, decide_eq_false_iff_not, bA, bB, bC, bD, bE, bF, bG, bH] at hp))))
    | (refine Kn.go hK ?_; clear hK K)
    | refine Kn.go (by assumption) ?_
    | (intro n hn; (try simp only [upd_none2, join_none_iff, ite_none, ne_eq] at hn); (try simp only [push_cast, seval, *]))
    | (intro hc)
    | fail)
    rename_i n7 h7
    have own1 := (unhid hown).new h7 (.r 80 4 1 [[.c (.int .i64 s), .c (.int .i64 kk), .c (.int .i64 cn), .c (.int .i64 ct)]])
    have hG7 : G n7 = none := (unhid hown).none h7
    refine does_appN rfl rfl rfl rfl rfl own1 (by simp only [upd_none2]; exact hn) tE88 tS5 tB5 tZ5 rfl (by decide) ?_ ?_ ?_
    · simp only [List.length_map, List.length_append, List.length_cons, List.length_nil, maxLen]; omega
    · simp only [List.length_map, List.length_append, List.length_cons, List.length_nil]; omega
    intro x1 H1 hown1
    have k7 := hown1.get (upd_same _ _ _)
    have hcs1 := hown1.cs
    have hr1 : (A ++ R).map by1 ++ [[.c (.int .u8 s)], [.c (.int .u8 kk)]] = (A ++ R ++ [s, kk]).map by1 := by rw [List.map_append (l₁ := A ++ R)]; rfl
    rw [hr1] at hown1
    clear own1 hown hr1 hcs hn
    replace hown1 := Lib.hid hown1
    (try simp only [push_cast, seval, *])
    repeat' (first
    | refine AW_seq_kn fun K hK => ?_
    | refine AW_block ?_
    | ((first
      | refine AW_region_draw (id := 9) E0 (fun f => [].contains f) dLUE0 dAUE0 mixed (by kernel_rfl) ?_
      | refine AW_region E0 ?_ | refine AW_ret ?_ | refine AW_exit ?_ | refine AW_skip ?_ | unfold retQ); try simp only [push_cast, seval, *])
    | (apply AW_cond; (case hc => (simp only [push_cast, seval]; rfl)); all_goals (intro hc; first | (exfalso; simp only [push_cast, seval, *] at hc; done) | (exact absurd hc (by decide)) | ((try first | rw [Bool.not_true] at hc | rw [Bool.not_false] at hc); first | (with_reducible replace hc := tTT hc); clear hc | (with_reducible replace hc := tFF hc); clear hc | (have hp := hc; try simp only [decide_eq_true_eq, decide_eq_false_iff_not, bA, bB, bC, bD, bE, bF, bG, bH] at hp))))
    | (refine Kn.go hK ?_; clear hK K)
    | refine Kn.go (by assumption) ?_
    | (intro n hn; (try simp only [upd_none2, join_none_iff, ite_none, ne_eq] at hn); (try simp only [push_cast, seval, *]))
    | (intro hc)
    | fail)
    refine does_call rfl rfl ?_
    simp only [push_cast, seval, *]
    refine ACall.mono (unhid hp1 (A ++ R ++ [s, kk]) (by simp only [List.length_append, List.length_cons, List.length_nil]; omega) x1 H1 _ (unhid hown1)) ?_
    intro x2 H2 hown2
    have k7b := hown2.get k7
    have hcs2 := hown2.cs
    clear k7
    (try simp only [push_cast, seval, *])
    repeat' (first
    | refine AW_seq_kn fun K hK => ?_
    | refine AW_block ?_
    | ((first
      | refine AW_region_draw (id := 9) E0 (fun f => [].contains f) dLUE0 dAUE0 mixed (by kernel_rfl) ?_
      | refine AW_region E0 ?_ | refine AW_ret ?_ | refine AW_exit ?_ | refine AW_skip ?_ | unfold retQ); try simp only [push_cast, seval, *])
    | (apply AW_cond; (case hc => (simp only [push_cast, seval]; rfl)); all_goals (intro hc; first | (exfalso; simp only [push_cast, seval, *] at hc; done) | (exact absurd hc (by decide)) | ((try first | rw [Bool.not_true] at hc | rw [Bool.not_false] at hc); first | (with_reducible replace hc := tTT hc); clear hc | (with_reducible replace hc := tFF hc); clear hc | (have hp := hc; try simp only [decide_eq_true_eq, decide_eq_false_iff_not, bA, bB, bC, bD, bE, bF, bG, bH] at hp))))
    | (refine Kn.go hK ?_; clear hK K)
    | refine Kn.go (by assumption) ?_
    | (intro n hn; (try simp only [upd_none2, join_none_iff, ite_none, ne_eq] at hn); (try simp only [push_cast, seval, *]))
    | (intro hc)
    | fail)
    refine does_call rfl rfl ?_
    simp only [push_cast, seval, *]
    refine ACall.mono (unhid hp2 (A ++ R ++ [s, kk] ++ b1) (by simp only [List.length_append, List.length_cons, List.length_nil]; omega) x2 H2 _ hown2) ?_
    intro x3 H3 hown3
    have hcs3 := hown3.cs
    have k7c := hown3.get k7b
    have hGH : Heap.le G H2 := Heap.le_trans (le_upd_new hG7) (Heap.le_trans (unhid hown1).le hown2.le)
    obtain ⟨H4, l1, l2⟩ := hown3.cut hGH
    have hrr : A ++ R ++ [s, kk] ++ b1 ++ b2 = A ++ (R ++ ([s, kk] ++ b1 ++ b2)) := by simp only [List.append_assoc]
    rw [hrr] at l2
    clear hown3 hown2 k7b hGH hown1 hrr
    replace l1 := Lib.hid l1
    replace l2 := Lib.hid l2
    (try simp only [push_cast, seval, *])
    repeat' (first
    | refine AW_seq_kn fun K hK => ?_
    | refine AW_block ?_
    | ((first
      | refine AW_region_draw (id := 9) E0 (fun f => [].contains f) dLUE0 dAUE0 mixed (by kernel_rfl) ?_
      | refine AW_region E0 ?_ | refine AW_ret ?_ | refine AW_exit ?_ | refine AW_skip ?_ | unfold retQ); try simp only [push_cast, seval, *])
    | (apply AW_cond; (case hc => (simp only [push_cast, seval]; rfl)); all_goals (intro hc; first | (exfalso; simp only [push_cast, seval, *] at hc; done) | (exact absurd hc (by decide)) | ((try first | rw [Bool.not_true] at hc | rw [Bool.not_false] at hc); first | (with_reducible replace hc := tTT hc); clear hc | (with_reducible replace hc := tFF hc); clear hc | (have hp := hc; try simp only [decide_eq_true_eq, decide_eq_false_iff_not, bA, bB, bC, bD, bE, bF, bG, bH] at hp))))
    | (refine Kn.go hK ?_; clear hK K)
    | refine Kn.go (by assumption) ?_
    | (intro n hn; (try simp only [upd_none2, join_none_iff, ite_none, ne_eq] at hn); (try simp only [push_cast, seval, *]))
    | (intro hc)
    | fail)
    exact ⟨(x3, H4), unhid l2, by (first | trivial | (simp only [push_cast, seval, *]; done)), unhid l1⟩
  · rintro ⟨v, B⟩ hown
    rw [List.take_length] at hown
    simp only at hown
    have hcs := hown.cs
    obtain ⟨B2, l1, l2⟩ := hown.cut (unhid hH1)
    replace l1 := Lib.hid l1
    replace l2 := Lib.hid l2
    clear hown
    repeat' (first
    | refine AW_seq_kn fun K hK => ?_
    | refine AW_block ?_
    | ((first
      | refine AW_region_draw (id := 9) E0 (fun f => [].contains f) dLUE0 dAUE0 mixed (by kernel_rfl) ?_
      | refine AW_region E0 ?_ | refine AW_ret ?_ | refine AW_exit ?_ | refine AW_skip ?_ | unfold retQ); try simp only [push_cast, seval, *])
    | (apply AW_cond; (case hc => (simp only [push_cast, seval]; rfl)); all_goals (intro hc; first | (exfalso; simp only [push_cast, seval, *] at hc; done) | (exact absurd hc (by decide)) | ((try first | rw [Bool.not_true] at hc | rw [Bool.not_false] at hc); first | (with_reducible replace hc := tTT hc); clear hc | (with_reducible replace hc := tFF hc); clear hc | (have hp := hc; try simp only [decide_eq_true_eq, decide_eq_false_iff_not, bA, bB, bC, bD, bE, bF, bG, bH] at hp))))
    | (refine Kn.go hK ?_; clear hK K)
    | refine Kn.go (by assumption) ?_
    | (intro n hn; (try simp only [upd_none2, join_none_iff, ite_none, ne_eq] at hn); (try simp only [push_cast, seval, *]))
    | (intro hc)
    | fail)
    exact ⟨_, B2, Weak.less (unhid l1), v, rfl, unhid l2⟩
end Go.Proofs.Ytmkncbddjnaklaa
