/- Walks: the document's numbers and bytes. -/
import Derived.Test.YtmkncbddjnaklaaUE
namespace Go.Proofs.Ytmkncbddjnaklaa
open Go.RowKit
open Nat renaming reduceEqDiff → nA, reduceLT → nB, reduceLeDiff → nC, reduceAdd → nD, reduceMul → nE, reduceSub → nF, reduceBEq → nG
open Int renaming reduceToNat → iA, reduceLT → iB, reduceLE → iC, reduceEq → iD
open Bool renaming and_eq_true → bA, or_eq_true → bB, or_eq_false_iff → bC, and_eq_false_iff → bD, not_eq_true' → bE, not_eq_false' → bF, not_true → bG, not_false → bH
set_option linter.all false
set_option maxHeartbeats 4000000
attribute [local irreducible] AW Does ACall tE tS tB tZ
def dLRB0 : List En := [(0, false, []), (1, false, []), (2, false, []), (3, false, []), (4, false, []), (7, false, []), (8, false, []), (9, true, []), (10, false, []), (5, false, [9]), (6, false, [9]), (11, false, []), (12, false, []), (13, false, [])]
def dARB0 : List (List Nat) := [[], [], [1], [1, 2], [1, 2, 3], [1, 2, 3, 4], [0, 1, 2, 3, 4, 5], [], [7], [7, 8], [7, 8, 9], [0, 1, 2, 3, 4, 5, 6, 7, 8, 9, 10], [0, 1, 2, 3, 4, 5, 6, 7, 8, 9, 10, 11], [0, 1, 2, 3, 4, 5, 6, 7, 8, 9, 10, 11, 12]]
attribute [push_cast] dLRB0

theorem binV_shl8 (x : Int) (k' : IntKind) (t : TypeId) : binV Try.prog .shl t (.c (.int .u64 x)) (.c (.int k' 8)) = some (.c (.int .u64 (IntKind.u64.wrap (x * 2 ^ 8)))) := by
  unfold binV
  simp only [show (0 : Int) ≤ 8 by decide, if_true, show min (8 : Int).toNat IntKind.u64.bits = 8 from rfl, ite_self]
theorem binV_shr8 (x : Int) (k' : IntKind) (t : TypeId) : binV Try.prog .shr t (.c (.int .u64 x)) (.c (.int k' 8)) = some (.c (.int .u64 (x.fdiv (2 ^ 8)))) := by
  unfold binV
  simp only [show (0 : Int) ≤ 8 by decide, if_true, show min (8 : Int).toNat IntKind.u64.bits = 8 from rfl, ite_self]
theorem number_p (l : List Int) (ho : octs l) (hl : l.length ≤ 8) : Pure Try.prog 104 [.l 1 (l.map by1)] (.c (.int .u64 (numB l))) := by
  intro H
  have hs8 := fun x k' t => binV_shl8 x k' t
  refine ACall_of' Try.func104 rfl (Ent_of Try.func104 (by kernel_rfl) rfl) (by simp [Try.ntmps104]) ?_; simp only [Try.ntmps104, Try.results104]
  repeat' (first
    | refine AW_seq_kn fun K hK => ?_
    | refine AW_block ?_
    | ((first
      | refine AW_region E0 ?_ | refine AW_ret ?_ | refine AW_exit ?_ | refine AW_skip ?_ | unfold retQ); try simp only [push_cast, seval, *])
    | (apply AW_cond; (case hc => (simp only [push_cast, seval]; rfl)); all_goals (intro hc; first | (exfalso; simp only [push_cast, seval, *] at hc; done) | (exact absurd hc (by decide)) | ((try first | rw [Bool.not_true] at hc | rw [Bool.not_false] at hc); first | (with_reducible replace hc := tTT hc); clear hc | (with_reducible replace hc := tFF hc); clear hc | (have hp := hc; try simp only [decide_eq_true_eq, decide_eq_false_iff_not, bA, bB, bC, bD, bE, bF, bG, bH] at hp))))
    | (refine Kn.go hK ?_; clear hK K)
    | refine Kn.go (by assumption) ?_
    | (intro n hn; (try simp only [upd_none2, join_none_iff, ite_none, ne_eq] at hn); (try simp only [push_cast, seval, *]))
    | (intro hc)
    | fail)
  refine AW_loopN l.length (fun _ => True) (fun k => [(0, .l 1 (l.map by1)), (3, .c (.int .u64 (numB (l.take k)))), (4, ci k)]) (fun _ => H) trivial ?_ ?_ ?_ ?_
  · (first | trivial | (simp only [push_cast, seval, *]; done))
  · exact Heap.le_refl _
  · rintro k hk -
    have hc := List.getElem?_eq_getElem (l := l) hk; generalize l[k] = c at hc; have hcm := List.mem_of_getElem? hc; have hkl : (k : Int) < l.length := (by omega); have hkw : IntKind.i64.wrap ((k : Int) + 1) = (k : Int) + 1 := wrap_i64 (by omega) (by omega)
    have hoc := ho c hcm
    have hns := num_step hc ho hl
    have hcv : IntKind.u64.wrap c = c := wrap_u64 (by omega) (by omega)
    have hby : by1 c = [.c (.int .u8 c)] := rfl
    generalize numB (l.take k) = X at *
    generalize numB (l.take (k + 1)) = Z at *
    have hs := fun k' t => hs8 X k' t
    generalize IntKind.u64.wrap (X * 2 ^ 8) = Y at *
    clear hs8 hoc
    repeat' (first
    | refine AW_seq_kn fun K hK => ?_
    | refine AW_block ?_
    | ((first
      | refine AW_region E0 ?_ | refine AW_ret ?_ | refine AW_exit ?_ | refine AW_skip ?_ | unfold retQ); try simp only [push_cast, seval, *])
    | (apply AW_cond; (case hc => (simp only [push_cast, seval]; rfl)); all_goals (intro hc; first | (exfalso; simp only [push_cast, seval, *] at hc; done) | (exact absurd hc (by decide)) | ((try first | rw [Bool.not_true] at hc | rw [Bool.not_false] at hc); first | (with_reducible replace hc := tTT hc); clear hc | (with_reducible replace hc := tFF hc); clear hc | (have hp := hc; try simp only [decide_eq_true_eq, decide_eq_false_iff_not, bA, bB, bC, bD, bE, bF, bG, bH] at hp))))
    | (refine Kn.go hK ?_; clear hK K)
    | refine Kn.go (by assumption) ?_
    | (intro n hn; (try simp only [upd_none2, join_none_iff, ite_none, ne_eq] at hn); (try simp only [push_cast, seval, *]))
    | (intro hc)
    | fail)
    exact ⟨trivial, by (first | trivial | (simp only [push_cast, seval, *]; done)), by first | trivial | exact Heap.le_refl _⟩
  · rintro -
    rw [List.take_length]
    clear hs8
    repeat' (first
    | refine AW_seq_kn fun K hK => ?_
    | refine AW_block ?_
    | ((first
      | refine AW_region E0 ?_ | refine AW_ret ?_ | refine AW_exit ?_ | refine AW_skip ?_ | unfold retQ); try simp only [push_cast, seval, *])
    | (apply AW_cond; (case hc => (simp only [push_cast, seval]; rfl)); all_goals (intro hc; first | (exfalso; simp only [push_cast, seval, *] at hc; done) | (exact absurd hc (by decide)) | ((try first | rw [Bool.not_true] at hc | rw [Bool.not_false] at hc); first | (with_reducible replace hc := tTT hc); clear hc | (with_reducible replace hc := tFF hc); clear hc | (have hp := hc; try simp only [decide_eq_true_eq, decide_eq_false_iff_not, bA, bB, bC, bD, bE, bF, bG, bH] at hp))))
    | (refine Kn.go hK ?_; clear hK K)
    | refine Kn.go (by assumption) ?_
    | (intro n hn; (try simp only [upd_none2, join_none_iff, ite_none, ne_eq] at hn); (try simp only [push_cast, seval, *]))
    | (intro hc)
    | fail)
    exact ⟨_, _, Weak.less (by (simp only [push_cast, seval, *])), rfl, rfl⟩
theorem high_o : ∀ (nb : Nat) (x : Int), nb ≤ 8 → 0 ≤ x → x ≤ 18446744073709551615 → ∀ H : Heap, ACall Try.prog 100 [.c (.int .u64 x), ci nb] H fun r H' => OwnL H' r 5 1 ((beB nb x).map by1) H
  | 0, x, _, _, _ => fun H => by
    simp only [beB, List.map_nil]
    refine ACall_of' Try.func100 rfl (Ent_of Try.func100 (by kernel_rfl) rfl) (by simp [Try.ntmps100]) ?_; simp only [Try.ntmps100, Try.results100]
    repeat' (first
    | refine AW_seq_kn fun K hK => ?_
    | refine AW_block ?_
    | ((first
      | refine AW_region E0 ?_ | refine AW_ret ?_ | refine AW_exit ?_ | refine AW_skip ?_ | unfold retQ); try simp only [push_cast, seval, *])
    | (apply AW_cond; (case hc => (simp only [push_cast, seval]; rfl)); all_goals (intro hc; first | (exfalso; simp only [push_cast, seval, *] at hc; done) | (exact absurd hc (by decide)) | ((try first | rw [Bool.not_true] at hc | rw [Bool.not_false] at hc); first | (with_reducible replace hc := tTT hc); clear hc | (with_reducible replace hc := tFF hc); clear hc | (have hp := hc; try simp only [decide_eq_true_eq, decide_eq_false_iff_not, bA, bB, bC, bD, bE, bF, bG, bH] at hp))))
    | (refine Kn.go hK ?_; clear hK K)
    | refine Kn.go (by assumption) ?_
    | (intro n hn; (try simp only [upd_none2, join_none_iff, ite_none, ne_eq] at hn); (try simp only [push_cast, seval, *]))
    | (intro hc)
    | fail)
    exact ⟨_, H, Weak.refl _ _, .inl ⟨⟨_, rfl⟩, rfl, rfl⟩⟩
  | nb + 1, x, hn8, h0, h1 => fun H => by
    have ih := high_o nb (x / 256) (by omega) (by omega) (by omega)
    have hlen := beB_len nb (x / 256)
    have hd : x.fdiv (2 ^ 8) = x / 256 := Int.fdiv_eq_ediv_of_nonneg _ (by omega)
    have hs := fun k' t => binV_shr8 x k' t
    rw [hd] at hs
    have hn0 : ¬ ((nb + 1 : Nat) : Int) = 0 := by omega
    have hw : IntKind.i64.wrap (((nb + 1 : Nat) : Int) - 1) = (nb : Int) := by rw [wrap_i64 (by omega) (by omega)]; omega
    have han := and255 x h0 h1
    have hcv : IntKind.u8.wrap (x % 256) = x % 256 := wrap_u8 (by omega) (by omega)
    simp only [beB]
    generalize beB nb (x / 256) = B at *
    generalize x / 256 = y at *
    generalize x % 256 = z at *
    have hby : by1 z = [.c (.int .u8 z)] := rfl
    have hBl : B.length ≤ 8 := by omega
    generalize ((nb + 1 : Nat) : Int) = N1 at *
    replace ih := Lib.hid ih
    clear hd h0 h1
    refine ACall_of' Try.func100 rfl (Ent_of Try.func100 (by kernel_rfl) rfl) (by simp [Try.ntmps100]) ?_; simp only [Try.ntmps100, Try.results100]
    repeat' (first
    | refine AW_seq_kn fun K hK => ?_
    | refine AW_block ?_
    | ((first
      | refine AW_region E0 ?_ | refine AW_ret ?_ | refine AW_exit ?_ | refine AW_skip ?_ | unfold retQ); try simp only [push_cast, seval, *])
    | (apply AW_cond; (case hc => (simp only [push_cast, seval]; rfl)); all_goals (intro hc; first | (exfalso; simp only [push_cast, seval, *] at hc; done) | (exact absurd hc (by decide)) | ((try first | rw [Bool.not_true] at hc | rw [Bool.not_false] at hc); first | (with_reducible replace hc := tTT hc); clear hc | (with_reducible replace hc := tFF hc); clear hc | (have hp := hc; try simp only [decide_eq_true_eq, decide_eq_false_iff_not, bA, bB, bC, bD, bE, bF, bG, bH] at hp))))
    | (refine Kn.go hK ?_; clear hK K)
    | refine Kn.go (by assumption) ?_
    | (intro n hn; (try simp only [upd_none2, join_none_iff, ite_none, ne_eq] at hn); (try simp only [push_cast, seval, *]))
    | (intro hc)
    | fail)
    refine does_call rfl rfl ?_
    simp only [push_cast, seval, *]
    refine ACall.mono (unhid ih _) ?_
    intro v B2 hown
    have hcs := hown.cs
    replace hown := Lib.hid hown
    (try simp only [push_cast, seval, *])
    repeat' (first
    | refine AW_seq_kn fun K hK => ?_
    | refine AW_block ?_
    | ((first
      | refine AW_region E0 ?_ | refine AW_ret ?_ | refine AW_exit ?_ | refine AW_skip ?_ | unfold retQ); try simp only [push_cast, seval, *])
    | (apply AW_cond; (case hc => (simp only [push_cast, seval]; rfl)); all_goals (intro hc; first | (exfalso; simp only [push_cast, seval, *] at hc; done) | (exact absurd hc (by decide)) | ((try first | rw [Bool.not_true] at hc | rw [Bool.not_false] at hc); first | (with_reducible replace hc := tTT hc); clear hc | (with_reducible replace hc := tFF hc); clear hc | (have hp := hc; try simp only [decide_eq_true_eq, decide_eq_false_iff_not, bA, bB, bC, bD, bE, bF, bG, bH] at hp))))
    | (refine Kn.go hK ?_; clear hK K)
    | refine Kn.go (by assumption) ?_
    | (intro n hn; (try simp only [upd_none2, join_none_iff, ite_none, ne_eq] at hn); (try simp only [push_cast, seval, *]))
    | (intro hc)
    | fail)
    refine does_appN rfl rfl rfl rfl rfl (unhid hown) hn tE88 tS5 tB5 tZ5 rfl (by decide) ?_ ?_ ?_
    · simp only [List.length_map, maxLen]; omega
    · simp only [List.length_map]; omega
    intro x' H' hown'
    have hcs' := hown'.cs
    rw [← hby, ← List.map_singleton (f := by1), ← List.map_append] at hown'
    replace hown' := Lib.hid hown'
    (try simp only [push_cast, seval, *])
    repeat' (first
    | refine AW_seq_kn fun K hK => ?_
    | refine AW_block ?_
    | ((first
      | refine AW_region E0 ?_ | refine AW_ret ?_ | refine AW_exit ?_ | refine AW_skip ?_ | unfold retQ); try simp only [push_cast, seval, *])
    | (apply AW_cond; (case hc => (simp only [push_cast, seval]; rfl)); all_goals (intro hc; first | (exfalso; simp only [push_cast, seval, *] at hc; done) | (exact absurd hc (by decide)) | ((try first | rw [Bool.not_true] at hc | rw [Bool.not_false] at hc); first | (with_reducible replace hc := tTT hc); clear hc | (with_reducible replace hc := tFF hc); clear hc | (have hp := hc; try simp only [decide_eq_true_eq, decide_eq_false_iff_not, bA, bB, bC, bD, bE, bF, bG, bH] at hp))))
    | (refine Kn.go hK ?_; clear hK K)
    | refine Kn.go (by assumption) ?_
    | (intro n hn; (try simp only [upd_none2, join_none_iff, ite_none, ne_eq] at hn); (try simp only [push_cast, seval, *]))
    | (intro hc)
    | fail)
    exact ⟨_, _, Weak.refl _ _, unhid hown'⟩
theorem High_l (nb : Nat) (x : Int) (hn : nb ≤ 8) (h0 : 0 ≤ x) (h1 : x ≤ 18446744073709551615) : Pure Try.prog 100 [.c (.int .u64 x), ci nb] (.l 1 ((beB nb x).map by1)) := fun H =>
  ACall.weak ((high_o nb x hn h0 h1 H).mono fun r H' h => ⟨_, _, h.weak (fun F F' hF hi _ => hi), rfl, rfl⟩)
theorem rbytes_p (l : List KC) (hl : l.length ≤ 50000) (ht : tOk l = true) : Pure Try.prog 58 [.g [.l 4 (l.map KC.av)]] (.l 1 ((encB l).map by1)) := by
  intro H
  have hmem := tGo_ok l none ht
  have hen : encB l = beB 2 l.length ++ l.flatMap rowB := rfl
  have hw64 : IntKind.u64.wrap (l.length : Int) = (l.length : Int) := wrap_u64 (by omega) (by omega)
  have hput := fun H => high_o 2 (l.length : Int) (by omega) (by omega) (by omega) H
  have hbl := beB_len 2 (l.length : Int)
  rw [hen]
  generalize beB 2 (l.length : Int) = A at *
  simp only [show ci ((2 : Nat) : Int) = .c (.int .i64 2) from rfl] at hput
  replace hput := Lib.hid hput
  replace hmem := Lib.hid hmem
  clear hen ht
  refine ACall_of' Try.func58 rfl (Ent_of Try.func58 (by kernel_rfl) rfl) (by simp [Try.ntmps58]) ?_; simp only [Try.ntmps58, Try.results58]
  repeat' (first
    | refine AW_seq_kn fun K hK => ?_
    | refine AW_block ?_
    | ((first
      | refine AW_region_draw (id := 6) E0 (fun f => [].contains f) dLRB0 dARB0 mixed (by kernel_rfl) ?_
      | refine AW_region E0 ?_ | refine AW_ret ?_ | refine AW_exit ?_ | refine AW_skip ?_ | unfold retQ); try simp only [push_cast, seval, *])
    | (apply AW_cond; (case hc => (simp only [push_cast, seval]; rfl)); all_goals (intro hc; first | (exfalso; simp only [push_cast, seval, *] at hc; done) | (exact absurd hc (by decide)) | ((try first | rw [Bool.not_true] at hc | rw [Bool.not_false] at hc); first | (with_reducible replace hc := tTT hc); clear hc | (with_reducible replace hc := tFF hc); clear hc | (have hp := hc; try simp only [decide_eq_true_eq, decide_eq_false_iff_not, bA, bB, bC, bD, bE, bF, bG, bH] at hp))))
    | (refine Kn.go hK ?_; clear hK K)
    | refine Kn.go (by assumption) ?_
    | (intro n hn; (try simp only [upd_none2, join_none_iff, ite_none, ne_eq] at hn); (try simp only [push_cast, seval, *]))
    | (intro hc)
    | fail)
  refine does_call rfl rfl ?_
  simp only [push_cast, seval, *]
  refine ACall.mono (unhid hput _) ?_
  intro v B hown
  generalize n = n1 at *
  have hcs := hown.cs
  have g1 : upd H n1 (.r 49 1 1 [[.l 4 (l.map KC.av)]]) n1 = some (.r 49 1 1 [[.l 4 (l.map KC.av)]]) := upd_same _ _ _
  have k1 := hown.get g1
  have hH1 : Heap.le H (upd H n1 (.r 49 1 1 [[.l 4 (l.map KC.av)]])) := le_upd_new hn
  obtain ⟨G, hG⟩ : ∃ G : Heap, G = upd H n1 (.r 49 1 1 [[.l 4 (l.map KC.av)]]) := ⟨_, rfl⟩
  rw [← hG] at hown hH1
  clear hG g1 hput hn
  replace hH1 := Lib.hid hH1
  replace hown := Lib.hid hown
  (try simp only [push_cast, seval, *])
  repeat' (first
    | refine AW_seq_kn fun K hK => ?_
    | refine AW_block ?_
    | ((first
      | refine AW_region_draw (id := 6) E0 (fun f => [].contains f) dLRB0 dARB0 mixed (by kernel_rfl) ?_
      | refine AW_region E0 ?_ | refine AW_ret ?_ | refine AW_exit ?_ | refine AW_skip ?_ | unfold retQ); try simp only [push_cast, seval, *])
    | (apply AW_cond; (case hc => (simp only [push_cast, seval]; rfl)); all_goals (intro hc; first | (exfalso; simp only [push_cast, seval, *] at hc; done) | (exact absurd hc (by decide)) | ((try first | rw [Bool.not_true] at hc | rw [Bool.not_false] at hc); first | (with_reducible replace hc := tTT hc); clear hc | (with_reducible replace hc := tFF hc); clear hc | (have hp := hc; try simp only [decide_eq_true_eq, decide_eq_false_iff_not, bA, bB, bC, bD, bE, bF, bG, bH] at hp))))
    | (refine Kn.go hK ?_; clear hK K)
    | refine Kn.go (by assumption) ?_
    | (intro n hn; (try simp only [upd_none2, join_none_iff, ite_none, ne_eq] at hn); (try simp only [push_cast, seval, *]))
    | (intro hc)
    | fail)
  refine AW_loopX (σ := AV × Heap) l.length (fun k w => OwnL w.2 w.1 5 1 ((A ++ (l.take k).flatMap rowB).map by1) G) (fun k w => [(3, w.1), (12, .l 4 (l.map KC.av)), (13, ci l.length), (14, ci k)]) (fun _ w => w.2) (v, B) (by simpa using unhid hown) ?_ ?_ ?_ ?_
  · (first | trivial | (simp only [push_cast, seval, *]; done))
  · exact Heap.le_refl _
  · clear hown k1 hcs
    rintro k ⟨v, B⟩ hk hown
    have hx := List.getElem?_eq_getElem (l := l) hk; generalize l[k] = x at hx; have hxm := List.mem_of_getElem? hx; have hkl : (k : Int) < l.length := (by omega); have hkw : IntKind.i64.wrap ((k : Int) + 1) = (k : Int) + 1 := wrap_i64 (by omega) (by omega)
    have hxo : (0 ≤ x.s ∧ x.s < 8) ∧ (0 ≤ x.k ∧ x.k < 32) := by
      have h : recOk ⟨x.s, x.k, 0⟩ = true := (unhid hmem x hxm).1
      simp only [recOk, Bool.and_eq_true, decide_eq_true_eq] at h
      omega
    have hrl := rows_len (l.take k)
    have hflat : (l.take (k + 1)).flatMap rowB = (l.take k).flatMap rowB ++ rowB x := by rw [take_snoc hx, List.flatMap_append]; simp
    rw [hflat]
    generalize (l.take k).flatMap rowB = R at *
    have hRl : R.length ≤ 18 * k := by rw [hrl, List.length_take]; omega
    have hcs := hown.cs
    obtain ⟨s, kk, cn, ct⟩ := x
    have hu1 := u64_bd cn
    have hu2 := u64_bd ct
    have hrow : rowB ⟨s, kk, cn, ct⟩ = [s, kk] ++ beB 8 (IntKind.u64.wrap cn) ++ beB 8 (IntKind.u64.wrap ct) := rfl
    rw [hrow]
    have hb1 := beB_len 8 (IntKind.u64.wrap cn)
    have hb2 := beB_len 8 (IntKind.u64.wrap ct)
    have hp1 := High_l 8 (IntKind.u64.wrap cn) (by omega) hu1.1 hu1.2
    have hp2 := High_l 8 (IntKind.u64.wrap ct) (by omega) hu2.1 hu2.2
    generalize beB 8 (IntKind.u64.wrap cn) = b1 at *
    generalize beB 8 (IntKind.u64.wrap ct) = b2 at *
    generalize hun : IntKind.u64.wrap cn = un at *
    generalize hut : IntKind.u64.wrap ct = ut at *
    simp only at hxo hown hcs
    have hty : List.take 4 (KC.av ⟨s, kk, cn, ct⟩) = KC.av ⟨s, kk, cn, ct⟩ := rfl
    have hs8 : IntKind.u8.wrap s = s := wrap_u8 (by omega) (by omega)
    have hk8 : IntKind.u8.wrap kk = kk := wrap_u8 (by omega) (by omega)
    replace hown := Lib.hid hown
    simp only [show ci ((8 : Nat) : Int) = .c (.int .i64 8) from rfl] at hp1 hp2
    clear hxo hu1 hu2 hflat hrow hrl hxm hmem
    repeat' (first
    | refine AW_seq_kn fun K hK => ?_
    | refine AW_block ?_
    | ((first
      | refine AW_region_draw (id := 6) E0 (fun f => [].contains f) dLRB0 dARB0 mixed (by kernel_rfl) ?_
      | refine AW_region E0 ?_ | refine AW_ret ?_ | refine AW_exit ?_ | refine AW_skip ?_ | unfold retQ); try simp only [push_cast, seval, *])
    | (apply AW_cond; (case hc => (simp only [push_cast, seval]; rfl)); all_goals (intro hc; first | (exfalso; simp only [push_cast, seval, *] at hc; done) | (exact absurd hc (by decide)) | ((try first | rw [Bool.not_true] at hc | rw [Bool.not_false] at hc); first | (with_reducible replace hc := tTT hc); clear hc | (with_reducible replace hc := tFF hc); clear hc | (have hp := hc; try simp only [decide_eq_true_eq, decide_eq_false_iff_not, bA, bB, bC, bD, bE, bF, bG, bH] at hp))))
    | (refine Kn.go hK ?_; clear hK K)
    | refine Kn.go (by assumption) ?_
    | (intro n hn; (try simp only [upd_none2, join_none_iff, ite_none, ne_eq] at hn); (try simp only [push_cast, seval, *]))
    | (intro hc)
    | fail)
    rename_i n7 h7
    have own1 := (unhid hown).new h7 (.r 80 4 1 [[.c (.int .i64 s), .c (.int .i64 kk), .c (.int .i64 cn), .c (.int .i64 ct)]])
    have hG7 : G n7 = none := (unhid hown).none h7
    refine does_appN rfl rfl rfl rfl rfl own1 (by simp only [upd_none2]; exact hn) tE88 tS5 tB5 tZ5 rfl (by decide) ?_ ?_ ?_
    · simp only [List.length_map, List.length_append, List.length_cons, List.length_nil, maxLen]; omega
    · simp only [List.length_map, List.length_append, List.length_cons, List.length_nil]; omega
    intro x1 H1 hown1
    have k7 := hown1.get (upd_same _ _ _)
    have hcs1 := hown1.cs
    have hr1 : (A ++ R).map by1 ++ [[.c (.int .u8 s)], [.c (.int .u8 kk)]] = (A ++ R ++ [s, kk]).map by1 := by rw [List.map_append (l₁ := A ++ R)]; rfl
    rw [hr1] at hown1
    clear own1 hown hr1 hcs hn
    replace hown1 := Lib.hid hown1
    (try simp only [push_cast, seval, *])
    repeat' (first
    | refine AW_seq_kn fun K hK => ?_
    | refine AW_block ?_
    | (refine does_call rfl rfl ?_; simp only [push_cast, seval, *]; refine ACall.monoP (hp1 _) ?_; (try simp only [push_cast, seval, *]))
    | (refine does_call rfl rfl ?_; simp only [push_cast, seval, *]; refine ACall.monoP (hp2 _) ?_; (try simp only [push_cast, seval, *]))
    | ((first
      | refine AW_region_draw (id := 6) E0 (fun f => [].contains f) dLRB0 dARB0 mixed (by kernel_rfl) ?_
      | refine AW_region E0 ?_ | refine AW_ret ?_ | refine AW_exit ?_ | refine AW_skip ?_ | unfold retQ); try simp only [push_cast, seval, *])
    | (apply AW_cond; (case hc => (simp only [push_cast, seval]; rfl)); all_goals (intro hc; first | (exfalso; simp only [push_cast, seval, *] at hc; done) | (exact absurd hc (by decide)) | ((try first | rw [Bool.not_true] at hc | rw [Bool.not_false] at hc); first | (with_reducible replace hc := tTT hc); clear hc | (with_reducible replace hc := tFF hc); clear hc | (have hp := hc; try simp only [decide_eq_true_eq, decide_eq_false_iff_not, bA, bB, bC, bD, bE, bF, bG, bH] at hp))))
    | (refine Kn.go hK ?_; clear hK K)
    | refine Kn.go (by assumption) ?_
    | (intro n hn; (try simp only [upd_none2, join_none_iff, ite_none, ne_eq] at hn); (try simp only [push_cast, seval, *]))
    | (intro hc)
    | fail)
    refine does_appL rfl rfl rfl (unhid hown1) tE88 tS5 tB5 tZ5 rfl (by decide) ?_ ?_ ?_
    · simp only [List.length_map, List.length_append, List.length_cons, List.length_nil, maxLen]; omega
    · simp only [List.length_map, List.length_append, List.length_cons, List.length_nil]; omega
    intro x2 H2 hown2
    have k7b := hown2.get (upd_same _ _ _)
    have hcs2 := hown2.cs
    rw [← List.map_append] at hown2
    clear hown1 k7 hcs1
    replace hown2 := Lib.hid hown2
    (try simp only [push_cast, seval, *])
    repeat' (first
    | refine AW_seq_kn fun K hK => ?_
    | refine AW_block ?_
    | (refine does_call rfl rfl ?_; simp only [push_cast, seval, *]; refine ACall.monoP (hp1 _) ?_; (try simp only [push_cast, seval, *]))
    | (refine does_call rfl rfl ?_; simp only [push_cast, seval, *]; refine ACall.monoP (hp2 _) ?_; (try simp only [push_cast, seval, *]))
    | ((first
      | refine AW_region_draw (id := 6) E0 (fun f => [].contains f) dLRB0 dARB0 mixed (by kernel_rfl) ?_
      | refine AW_region E0 ?_ | refine AW_ret ?_ | refine AW_exit ?_ | refine AW_skip ?_ | unfold retQ); try simp only [push_cast, seval, *])
    | (apply AW_cond; (case hc => (simp only [push_cast, seval]; rfl)); all_goals (intro hc; first | (exfalso; simp only [push_cast, seval, *] at hc; done) | (exact absurd hc (by decide)) | ((try first | rw [Bool.not_true] at hc | rw [Bool.not_false] at hc); first | (with_reducible replace hc := tTT hc); clear hc | (with_reducible replace hc := tFF hc); clear hc | (have hp := hc; try simp only [decide_eq_true_eq, decide_eq_false_iff_not, bA, bB, bC, bD, bE, bF, bG, bH] at hp))))
    | (refine Kn.go hK ?_; clear hK K)
    | refine Kn.go (by assumption) ?_
    | (intro n hn; (try simp only [upd_none2, join_none_iff, ite_none, ne_eq] at hn); (try simp only [push_cast, seval, *]))
    | (intro hc)
    | fail)
    refine does_appL rfl rfl rfl (unhid hown2) tE88 tS5 tB5 tZ5 rfl (by decide) ?_ ?_ ?_
    · simp only [List.length_map, List.length_append, List.length_cons, List.length_nil, maxLen]; omega
    · simp only [List.length_map, List.length_append, List.length_cons, List.length_nil]; omega
    intro x3 H3 hown3
    have k7c := hown3.get (upd_same _ _ _)
    have hcs3 := hown3.cs
    rw [← List.map_append] at hown3
    obtain ⟨H4, l1, l2⟩ := hown3.cut (le_upd_new hG7)
    have hrr : A ++ R ++ [s, kk] ++ b1 ++ b2 = A ++ (R ++ ([s, kk] ++ b1 ++ b2)) := by simp only [List.append_assoc]
    rw [hrr] at l2
    clear hown3 hown2 k7b hrr
    replace l1 := Lib.hid l1
    replace l2 := Lib.hid l2
    (try simp only [push_cast, seval, *])
    repeat' (first
    | refine AW_seq_kn fun K hK => ?_
    | refine AW_block ?_
    | ((first
      | refine AW_region_draw (id := 6) E0 (fun f => [].contains f) dLRB0 dARB0 mixed (by kernel_rfl) ?_
      | refine AW_region E0 ?_ | refine AW_ret ?_ | refine AW_exit ?_ | refine AW_skip ?_ | unfold retQ); try simp only [push_cast, seval, *])
    | (apply AW_cond; (case hc => (simp only [push_cast, seval]; rfl)); all_goals (intro hc; first | (exfalso; simp only [push_cast, seval, *] at hc; done) | (exact absurd hc (by decide)) | ((try first | rw [Bool.not_true] at hc | rw [Bool.not_false] at hc); first | (with_reducible replace hc := tTT hc); clear hc | (with_reducible replace hc := tFF hc); clear hc | (have hp := hc; try simp only [decide_eq_true_eq, decide_eq_false_iff_not, bA, bB, bC, bD, bE, bF, bG, bH] at hp))))
    | (refine Kn.go hK ?_; clear hK K)
    | refine Kn.go (by assumption) ?_
    | (intro n hn; (try simp only [upd_none2, join_none_iff, ite_none, ne_eq] at hn); (try simp only [push_cast, seval, *]))
    | (intro hc)
    | fail)
    exact ⟨(x3, H4), unhid l2, by (first | trivial | (simp only [push_cast, seval, *]; done)), unhid l1⟩
  · rintro ⟨v, B⟩ hown
    rw [List.take_length] at hown
    simp only at hown
    have hcs := hown.cs
    obtain ⟨B2, l1, l2⟩ := hown.cut (unhid hH1)
    replace l1 := Lib.hid l1
    replace l2 := Lib.hid l2
    clear hown
    repeat' (first
    | refine AW_seq_kn fun K hK => ?_
    | refine AW_block ?_
    | ((first
      | refine AW_region_draw (id := 6) E0 (fun f => [].contains f) dLRB0 dARB0 mixed (by kernel_rfl) ?_
      | refine AW_region E0 ?_ | refine AW_ret ?_ | refine AW_exit ?_ | refine AW_skip ?_ | unfold retQ); try simp only [push_cast, seval, *])
    | (apply AW_cond; (case hc => (simp only [push_cast, seval]; rfl)); all_goals (intro hc; first | (exfalso; simp only [push_cast, seval, *] at hc; done) | (exact absurd hc (by decide)) | ((try first | rw [Bool.not_true] at hc | rw [Bool.not_false] at hc); first | (with_reducible replace hc := tTT hc); clear hc | (with_reducible replace hc := tFF hc); clear hc | (have hp := hc; try simp only [decide_eq_true_eq, decide_eq_false_iff_not, bA, bB, bC, bD, bE, bF, bG, bH] at hp))))
    | (refine Kn.go hK ?_; clear hK K)
    | refine Kn.go (by assumption) ?_
    | (intro n hn; (try simp only [upd_none2, join_none_iff, ite_none, ne_eq] at hn); (try simp only [push_cast, seval, *]))
    | (intro hc)
    | fail)
    exact ⟨_, _, (Weak.less (unhid l1)).trans ((unhid l2).weak (fun F F' hF hi _ => hi)), rfl, rfl⟩
end Go.Proofs.Ytmkncbddjnaklaa
