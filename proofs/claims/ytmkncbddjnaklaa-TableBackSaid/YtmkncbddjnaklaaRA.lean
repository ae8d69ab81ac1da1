/- Walks: a reader of bytes. -/
import Derived.Test.YtmkncbddjnaklaaUD
namespace Go.Proofs.Ytmkncbddjnaklaa
open Go.RowKit
open Nat renaming reduceEqDiff → nA, reduceLT → nB, reduceLeDiff → nC, reduceAdd → nD, reduceMul → nE, reduceSub → nF, reduceBEq → nG
open Int renaming reduceToNat → iA, reduceLT → iB, reduceLE → iC, reduceEq → iD
open Bool renaming and_eq_true → bA, or_eq_true → bB, or_eq_false_iff → bC, and_eq_false_iff → bD, not_eq_true' → bE, not_eq_false' → bF, not_true → bG, not_false → bH
set_option linter.all false
set_option maxHeartbeats 4000000
attribute [local irreducible] AW Does ACall tE tS tB tZ
def dLRA0 : List En := [(0, false, []), (1, false, []), (2, false, []), (3, false, []), (4, false, []), (5, false, []), (6, false, []), (7, false, []), (8, false, []), (9, false, []), (10, false, []), (11, false, []), (12, false, []), (13, false, []), (14, false, [])]
def dARA0 : List (List Nat) := [[], [], [], [2], [2, 3], [], [2, 3, 4, 5], [1, 2, 3, 4, 5, 6], [1, 2, 3, 4, 5, 6, 7], [1, 2, 3, 4, 5, 6, 7, 8], [], [10], [1, 2, 3, 4, 5, 6, 7, 8, 9, 10, 11], [0, 1, 2, 3, 4, 5, 6, 7, 8, 9, 10, 11, 12], [0, 1, 2, 3, 4, 5, 6, 7, 8, 9, 10, 11, 12, 13]]
attribute [push_cast] dLRA0

section
variable {P : Program} {o : Oper} {a : Nat → AV} {H : Heap} {K : AV → Heap → Prop}
theorem eqptr_run {t e : TypeId} (hu : P.underlying t = some (.pointer e)) (ad : Addr) (w : World) : (Op.equal t (.pointer (some ad)) (.pointer none)).run P w = .ok false w := by
  have hu : ∀ w : World, (underlying t).run P w = .ok (.pointer e) w := fun w => by first | exact run_underlying hu | exact run_underlying hu w
  rw [show Op.equal t (.pointer (some ad)) (.pointer none) = Op.equalIn (9999 + 1) t (.pointer (some ad)) (.pointer none) from rfl]
  unfold Op.equalIn
  simp [Sem.run_bind, hu]
/-- a pointer that leads somewhere is not nil -/
theorem does_ptrnil {t t' e : TypeId} {x y : Operand} {n sz i j : Nat} (ho : o.op = .binOp .eql t x y t') (hx : ev a x = .p n sz i j) (hy : ev a y = .c (.pointer none)) (hu : P.underlying t = some (.pointer e))
    (h : K (.c (.bool false)) H) : Does P o a H K :=
  Does.ran (fun c => by simp [ho]) fun F w act hv hs => by
    have h1 := hv.ev x
    rw [hx] at h1
    have e1 := h1.p_inv
    refine ⟨.bool false, w, F, H, .c (.bool false), ?_, .c _, hs, Ext.refl _ _ _, h⟩
    have hg : eqGuard .eql t x y (.pointer (some ⟨n, i * sz + j, none⟩)) (.pointer none) = pure () := by rfl
    rw [show execOp act.eval o = (do pure (.value (← (do eqGuard .eql t x y (.pointer (some ⟨n, i * sz + j, none⟩)) (.pointer none); binOp .eql t (.pointer (some ⟨n, i * sz + j, none⟩)) (.pointer none))))) by simp [execOp, ho, e1, hv.c hy], hg]
    rw [show binOp .eql t (.pointer (some ⟨n, i * sz + j, none⟩)) (.pointer none) = (do pure (.bool (← Op.equal t (.pointer (some ⟨n, i * sz + j, none⟩)) (.pointer none)))) from rfl]
    simp [Sem.run_bind, eqptr_run hu]
end
theorem binV_shlK {k k' : IntKind} (x : Int) (n : Nat) (hn : n ≤ 64) (t : TypeId) : binV Try.prog .shl t (.c (.int .u64 x)) (.c (.int .i64 (n : Int))) = some (.c (.int .u64 (IntKind.u64.wrap (x * 2 ^ n)))) := by
  have hm : min ((n : Nat) : Int).toNat IntKind.u64.bits = n := by
    rw [Int.toNat_natCast]; show min _ 64 = _; omega
  unfold binV
  simp only [if_true, hm, Int.natCast_nonneg, ite_self]
abbrev u64B (x : Int) : Blk := .r 131 1 1 [[.c (.int .u64 x)]]
theorem bits1_a (l : List Int) (ho : octs l) (hl : l.length ≤ 8) (bx : Nat) (H : Heap) (hH : H bx = some (u64B 0)) :
    ACall Try.prog 133 ([.l 1 (l.map by1)] ++ [.p bx 1 0 0]) H fun _ H' => H' = upd H bx (u64B (numB l)) := by
  simp only [List.cons_append, List.nil_append]
  refine ACall_of' Try.func133 rfl (Ent_of Try.func133 (by kernel_rfl) rfl) (by simp [Try.ntmps133]) ?_; simp only [Try.ntmps133, Try.results133]
  repeat' (first
    | refine AW_seq_kn fun K hK => ?_
    | refine AW_block ?_
    | ((first
      | refine AW_region_draw (id := 3) E0 (fun f => [].contains f) dLRA0 dARA0 mixed (by kernel_rfl) ?_
      | refine AW_region E0 ?_ | refine AW_ret ?_ | refine AW_exit ?_ | refine AW_skip ?_ | unfold retQ); try simp only [push_cast, seval, *])
    | (apply AW_cond; (case hc => (simp only [push_cast, seval]; rfl)); all_goals (intro hc; first | (exfalso; simp only [push_cast, seval, *] at hc; done) | (exact absurd hc (by decide)) | ((try first | rw [Bool.not_true] at hc | rw [Bool.not_false] at hc); first | (with_reducible replace hc := tTT hc); clear hc | (with_reducible replace hc := tFF hc); clear hc | (have hp := hc; try simp only [decide_eq_true_eq, decide_eq_false_iff_not, bA, bB, bC, bD, bE, bF, bG, bH] at hp))))
    | (refine Kn.go hK ?_; clear hK K)
    | refine Kn.go (by assumption) ?_
    | (intro n hn; (try simp only [upd_none2, join_none_iff, ite_none, ne_eq] at hn); (try simp only [push_cast, seval, *]))
    | (intro hc)
    | fail)
  refine AW_loopN l.length (fun _ => True) (fun k => [(0, .l 1 (l.map by1)), (1, .p bx 1 0 0), (5, ci l.length), (6, ci k)]) (fun k => upd H bx (u64B (numB (l.drop (l.length - k))))) trivial ?_ ?_ ?_ ?_
  · (first | trivial | (simp only [push_cast, seval, *]; done))
  · rw [Nat.sub_zero, List.drop_length]
    show Heap.le (upd H bx (u64B 0)) H
    rw [upd_self hH]; exact Heap.le_refl _
  · rintro k hk -
    have hkl : (k : Int) < l.length := (by omega); have hkw : IntKind.i64.wrap ((k : Int) + 1) = (k : Int) + 1 := wrap_i64 (by omega) (by omega)
    obtain ⟨c, hc⟩ : ∃ c, l[l.length - 1 - k]? = some c := ⟨_, List.getElem?_eq_getElem (by omega)⟩
    have hoc := ho c (List.mem_of_getElem? hc)
    have hbs := bit_step hk hc ho hl
    have hw1 : IntKind.i64.wrap ((l.length : Int) - 1) = (l.length : Int) - 1 := wrap_i64 (by omega) (by omega)
    obtain ⟨i, hi⟩ : ∃ i, i = l.length - 1 - k := ⟨_, rfl⟩
    have hw2 : IntKind.i64.wrap ((l.length : Int) - 1 - (k : Int)) = (i : Int) := by rw [wrap_i64 (by omega) (by omega)]; omega
    have hil : (i : Int) < l.length := by omega
    have hw3 : IntKind.i64.wrap (8 * (k : Int)) = ((8 * k : Nat) : Int) := by rw [wrap_i64 (by omega) (by omega)]; omega
    have hcv : IntKind.u64.wrap c = c := wrap_u64 (by omega) (by omega)
    have hsh := fun t => binV_shlK (k := .u64) (k' := .u64) c (8 * k) (by omega) t
    rw [← hi] at hc
    have hby : by1 c = [.c (.int .u8 c)] := rfl
    generalize numB (l.drop (l.length - k)) = X at *
    generalize numB (l.drop (l.length - (k + 1))) = Z at *
    generalize IntKind.u64.wrap (c * 2 ^ (8 * k)) = Y at *
    generalize ((8 * k : Nat) : Int) = K8 at *
    clear hoc hi
    simp only [u64B]
    repeat' (first
    | refine AW_seq_kn fun K hK => ?_
    | refine AW_block ?_
    | ((first
      | refine AW_region_draw (id := 3) E0 (fun f => [].contains f) dLRA0 dARA0 mixed (by kernel_rfl) ?_
      | refine AW_region E0 ?_ | refine AW_ret ?_ | refine AW_exit ?_ | refine AW_skip ?_ | unfold retQ); try simp only [push_cast, seval, *])
    | (apply AW_cond; (case hc => (simp only [push_cast, seval]; rfl)); all_goals (intro hc; first | (exfalso; simp only [push_cast, seval, *] at hc; done) | (exact absurd hc (by decide)) | ((try first | rw [Bool.not_true] at hc | rw [Bool.not_false] at hc); first | (with_reducible replace hc := tTT hc); clear hc | (with_reducible replace hc := tFF hc); clear hc | (have hp := hc; try simp only [decide_eq_true_eq, decide_eq_false_iff_not, bA, bB, bC, bD, bE, bF, bG, bH] at hp))))
    | (refine Kn.go hK ?_; clear hK K)
    | refine Kn.go (by assumption) ?_
    | (intro n hn; (try simp only [upd_none2, join_none_iff, ite_none, ne_eq] at hn); (try simp only [push_cast, seval, *]))
    | (intro hc)
    | fail)
    exact ⟨trivial, by (first | trivial | (simp only [push_cast, seval, *]; done)), by first | trivial | rfl | (repeat' (first | exact Heap.le_refl _ | refine hle_upd2 ?_ _ _ | (refine Heap.le_new ?_ ?_; rotate_left 1; focus (first | assumption | (simp only [upd_none2, upd_get, ne_eq, push_cast, seval, *]; done) | (simp [upd_get, *]; done)))))⟩
  · rintro -
    rw [Nat.sub_self, List.drop_zero]
    repeat' (first
    | refine AW_seq_kn fun K hK => ?_
    | refine AW_block ?_
    | ((first
      | refine AW_region_draw (id := 3) E0 (fun f => [].contains f) dLRA0 dARA0 mixed (by kernel_rfl) ?_
      | refine AW_region E0 ?_ | refine AW_ret ?_ | refine AW_exit ?_ | refine AW_skip ?_ | unfold retQ); try simp only [push_cast, seval, *])
    | (apply AW_cond; (case hc => (simp only [push_cast, seval]; rfl)); all_goals (intro hc; first | (exfalso; simp only [push_cast, seval, *] at hc; done) | (exact absurd hc (by decide)) | ((try first | rw [Bool.not_true] at hc | rw [Bool.not_false] at hc); first | (with_reducible replace hc := tTT hc); clear hc | (with_reducible replace hc := tFF hc); clear hc | (have hp := hc; try simp only [decide_eq_true_eq, decide_eq_false_iff_not, bA, bB, bC, bD, bE, bF, bG, bH] at hp))))
    | (refine Kn.go hK ?_; clear hK K)
    | refine Kn.go (by assumption) ?_
    | (intro n hn; (try simp only [upd_none2, join_none_iff, ite_none, ne_eq] at hn); (try simp only [push_cast, seval, *]))
    | (intro hc)
    | fail)
    exact ⟨_, _, Weak.refl _ _, rfl⟩
abbrev rdB (l : List Int) : Blk := .r 161 2 1 [[.l 1 (l.map by1), .c (.int .i64 0)]]
theorem give_a (l : List Int) (ho : octs l) (n : Nat) (hn1 : 1 ≤ n) (hn8 : n ≤ 8) (hnl : n ≤ l.length) (hll : l.length ≤ 1000000) (m bx : Nat) (hne : ¬ m = bx) (H : Heap) (hm : H m = some (rdB l)) (hb : H bx = some (u64B 0)) :
    ACall Try.prog 132 [.p m 2 0 0, .c (.int .i64 (n : Int)), .f (.func 133) [] [.p bx 1 0 0]] H fun _ H' => H' = upd (upd H bx (u64B (numB (l.take n)))) m (rdB (l.drop n)) := by
  have hne2 : ¬ bx = m := fun e => hne e.symm
  have hb1 := bits1_a (l.take n) (ho.take n) (by rw [List.length_take]; omega) bx H hb
  have htk : List.take n (l.map by1) = (l.take n).map by1 := List.map_take.symm
  have hdt : List.take (l.length - n) (List.drop n (l.map by1)) = (l.drop n).map by1 := by rw [List.take_of_length_le (by simp), List.map_drop]
  have hn0 : ¬ (n : Int) < 0 := by omega
  have hnl2 : ¬ (l.length : Int) < n := by omega
  have hnl3 : (n : Int) ≤ l.length := by omega
  have hn1I : (0 : Int) < n := by omega
  generalize l.take n = L1 at *
  generalize l.drop n = L2 at *
  generalize numB L1 = X at *
  simp only [rdB, u64B, List.cons_append, List.nil_append] at hm hb hb1 ⊢
  refine ACall_of' Try.func132 rfl (Ent_of Try.func132 (by kernel_rfl) rfl) (by simp [Try.ntmps132]) ?_; simp only [Try.ntmps132, Try.results132]
  repeat' (first
    | refine AW_seq_kn fun K hK => ?_
    | refine AW_block ?_
    | ((first
      | refine AW_region E0 ?_ | refine AW_ret ?_ | refine AW_exit ?_ | refine AW_skip ?_ | unfold retQ); try simp only [push_cast, seval, *])
    | (apply AW_cond; (case hc => (simp only [push_cast, seval]; rfl)); all_goals (intro hc; first | (exfalso; simp only [push_cast, seval, *] at hc; done) | (exact absurd hc (by decide)) | ((try first | rw [Bool.not_true] at hc | rw [Bool.not_false] at hc); first | (with_reducible replace hc := tTT hc); clear hc | (with_reducible replace hc := tFF hc); clear hc | (have hp := hc; try simp only [decide_eq_true_eq, decide_eq_false_iff_not, bA, bB, bC, bD, bE, bF, bG, bH] at hp))))
    | (refine Kn.go hK ?_; clear hK K)
    | refine Kn.go (by assumption) ?_
    | (intro n hn; (try simp only [upd_none2, join_none_iff, ite_none, ne_eq] at hn); (try simp only [push_cast, seval, *]))
    | (intro hc)
    | fail)
  refine does_call_f rfl (by simp only [push_cast, seval]; rfl) ?_
  simp only [push_cast, seval, *, List.append_nil, List.nil_append, List.cons_append]
  refine ACall.mono hb1 ?_
  rintro q _ rfl
  (try simp only [push_cast, seval, *])
  repeat' (first
    | refine AW_seq_kn fun K hK => ?_
    | refine AW_block ?_
    | ((first
      | refine AW_region E0 ?_ | refine AW_ret ?_ | refine AW_exit ?_ | refine AW_skip ?_ | unfold retQ); try simp only [push_cast, seval, *])
    | (apply AW_cond; (case hc => (simp only [push_cast, seval]; rfl)); all_goals (intro hc; first | (exfalso; simp only [push_cast, seval, *] at hc; done) | (exact absurd hc (by decide)) | ((try first | rw [Bool.not_true] at hc | rw [Bool.not_false] at hc); first | (with_reducible replace hc := tTT hc); clear hc | (with_reducible replace hc := tFF hc); clear hc | (have hp := hc; try simp only [decide_eq_true_eq, decide_eq_false_iff_not, bA, bB, bC, bD, bE, bF, bG, bH] at hp))))
    | (refine Kn.go hK ?_; clear hK K)
    | refine Kn.go (by assumption) ?_
    | (intro n hn; (try simp only [upd_none2, join_none_iff, ite_none, ne_eq] at hn); (try simp only [push_cast, seval, *]))
    | (intro hc)
    | fail)
  exact ⟨_, _, Weak.refl _ _, rfl⟩
theorem bits_a (l : List Int) (ho : octs l) (nb : Nat) (hn1 : 1 ≤ nb) (hn8 : nb ≤ 8) (hnl : nb ≤ l.length) (hll : l.length ≤ 1000000) (m : Nat) (H : Heap) (hm : H m = some (rdB l)) :
    ACall Try.prog 124 [.p m 2 0 0, .c (.int .i64 ((8 * nb : Nat) : Int))] H fun r H' => r = .c (.int .u64 (numB (l.take nb))) ∧ H' = upd H m (rdB (l.drop nb)) := by
  have hqd : ((8 * nb : Nat) : Int).tdiv 8 = (nb : Int) := by
    rw [show ((8 * nb : Nat) : Int) = 8 * (nb : Int) by omega]; exact Int.mul_tdiv_cancel_left _ (by omega)
  have hqw : IntKind.i64.wrap (nb : Int) = (nb : Int) := wrap_i64 (by omega) (by omega)
  have hgv := fun bx hne H hm hb => give_a l ho nb hn1 hn8 hnl hll m bx hne H hm hb
  have hpt := Try.underlying133
  generalize numB (l.take nb) = X at *
  generalize l.drop nb = L2 at *
  generalize ((8 * nb : Nat) : Int) = B8 at *
  have hno := ne_old hm
  simp only [rdB] at hm
  replace hgv := Lib.hid hgv
  refine ACall_of' Try.func124 rfl (Ent_of Try.func124 (by kernel_rfl) rfl) (by simp [Try.ntmps124]) ?_; simp only [Try.ntmps124, Try.results124]
  repeat' (first
    | refine AW_seq_kn fun K hK => ?_
    | refine AW_block ?_
    | (refine does_ptrnil rfl rfl rfl hpt ?_; (try simp only [push_cast, seval, *]))
    | ((first
      | refine AW_region E0 ?_ | refine AW_ret ?_ | refine AW_exit ?_ | refine AW_skip ?_ | unfold retQ); try simp only [push_cast, seval, *])
    | (apply AW_cond; (case hc => (simp only [push_cast, seval]; rfl)); all_goals (intro hc; first | (exfalso; simp only [push_cast, seval, *] at hc; done) | (exact absurd hc (by decide)) | ((try first | rw [Bool.not_true] at hc | rw [Bool.not_false] at hc); first | (with_reducible replace hc := tTT hc); clear hc | (with_reducible replace hc := tFF hc); clear hc | (have hp := hc; try simp only [decide_eq_true_eq, decide_eq_false_iff_not, bA, bB, bC, bD, bE, bF, bG, bH] at hp))))
    | (refine Kn.go hK ?_; clear hK K)
    | refine Kn.go (by assumption) ?_
    | (intro n hn; (try simp only [upd_none2, join_none_iff, ite_none, ne_eq] at hn); (try simp only [push_cast, seval, *]))
    | (intro hc)
    | fail)
  generalize n = bx at *
  have hnm : ¬ m = bx := of_eq_false (hno bx hn).1
  have hmn : ¬ bx = m := of_eq_false (hno bx hn).2
  refine does_call rfl rfl ?_
  simp only [push_cast, seval, *]
  refine ACall.mono (unhid hgv bx hnm _ (by rw [upd_ne hnm]; exact hm) (upd_same _ _ _)) ?_
  rintro q _ rfl
  have hx5 : upd (upd (upd H bx (u64B 0)) bx (u64B X)) m (rdB L2) bx = some (u64B X) := by rw [upd_ne hmn, upd_same]
  simp only [u64B, rdB] at hx5
  have hfin : Heap.le (upd H m (rdB L2)) (upd (upd H bx (u64B X)) m (rdB L2)) := fun q z hq => by
    by_cases e : q = m
    · subst e; rw [upd_same] at hq ⊢; exact hq
    · rw [upd_ne e] at hq ⊢
      have e2 : q ≠ bx := by rintro rfl; rw [hn] at hq; cases hq
      rw [upd_ne e2]; exact hq
  replace hfin := Lib.hid hfin
  clear hgv
  (try simp only [push_cast, seval, *])
  repeat' (first
    | refine AW_seq_kn fun K hK => ?_
    | refine AW_block ?_
    | ((first
      | refine AW_region E0 ?_ | refine AW_ret ?_ | refine AW_exit ?_ | refine AW_skip ?_ | unfold retQ); try simp only [push_cast, seval, *])
    | (apply AW_cond; (case hc => (simp only [push_cast, seval]; rfl)); all_goals (intro hc; first | (exfalso; simp only [push_cast, seval, *] at hc; done) | (exact absurd hc (by decide)) | ((try first | rw [Bool.not_true] at hc | rw [Bool.not_false] at hc); first | (with_reducible replace hc := tTT hc); clear hc | (with_reducible replace hc := tFF hc); clear hc | (have hp := hc; try simp only [decide_eq_true_eq, decide_eq_false_iff_not, bA, bB, bC, bD, bE, bF, bG, bH] at hp))))
    | (refine Kn.go hK ?_; clear hK K)
    | refine Kn.go (by assumption) ?_
    | (intro n hn; (try simp only [upd_none2, join_none_iff, ite_none, ne_eq] at hn); (try simp only [push_cast, seval, *]))
    | (intro hc)
    | fail)
  exact ⟨_, _, Weak.less (unhid hfin), rfl, rfl⟩
theorem u8_a (b : Int) (l : List Int) (ho : octs (b :: l)) (hll : l.length ≤ 900000) (m : Nat) (H : Heap) (hm : H m = some (rdB (b :: l))) :
    ACall Try.prog 102 [.p m 2 0 0] H fun r H' => r = .c (.int .u8 b) ∧ H' = upd H m (rdB l) := by
  have hb := bits_a (b :: l) ho 1 (by omega) (by omega) (by simp) (by simp; omega) m H hm
  have hbb := ho b (by simp)
  have e1 : numB ((b :: l).take 1) = b := by simp [numB]
  have e2 : (b :: l).drop 1 = l := rfl
  have hw : IntKind.u8.wrap b = b := wrap_u8 (by omega) (by omega)
  rw [e1, e2] at hb
  simp only [show ((8 * 1 : Nat) : Int) = 8 from rfl] at hb
  clear hm ho
  refine ACall_of' Try.func102 rfl (Ent_of Try.func102 (by kernel_rfl) rfl) (by simp [Try.ntmps102]) ?_; simp only [Try.ntmps102, Try.results102]
  repeat' (first
    | refine AW_seq_kn fun K hK => ?_
    | refine AW_block ?_
    | ((first
      | refine AW_region E0 ?_ | refine AW_ret ?_ | refine AW_exit ?_ | refine AW_skip ?_ | unfold retQ); try simp only [push_cast, seval, *])
    | (apply AW_cond; (case hc => (simp only [push_cast, seval]; rfl)); all_goals (intro hc; first | (exfalso; simp only [push_cast, seval, *] at hc; done) | (exact absurd hc (by decide)) | ((try first | rw [Bool.not_true] at hc | rw [Bool.not_false] at hc); first | (with_reducible replace hc := tTT hc); clear hc | (with_reducible replace hc := tFF hc); clear hc | (have hp := hc; try simp only [decide_eq_true_eq, decide_eq_false_iff_not, bA, bB, bC, bD, bE, bF, bG, bH] at hp))))
    | (refine Kn.go hK ?_; clear hK K)
    | refine Kn.go (by assumption) ?_
    | (intro n hn; (try simp only [upd_none2, join_none_iff, ite_none, ne_eq] at hn); (try simp only [push_cast, seval, *]))
    | (intro hc)
    | fail)
  refine does_call rfl rfl ?_
  simp only [push_cast, seval, *]
  refine ACall.mono hb ?_
  rintro q H' ⟨rfl, rfl⟩
  (try simp only [push_cast, seval, *])
  repeat' (first
    | refine AW_seq_kn fun K hK => ?_
    | refine AW_block ?_
    | ((first
      | refine AW_region E0 ?_ | refine AW_ret ?_ | refine AW_exit ?_ | refine AW_skip ?_ | unfold retQ); try simp only [push_cast, seval, *])
    | (apply AW_cond; (case hc => (simp only [push_cast, seval]; rfl)); all_goals (intro hc; first | (exfalso; simp only [push_cast, seval, *] at hc; done) | (exact absurd hc (by decide)) | ((try first | rw [Bool.not_true] at hc | rw [Bool.not_false] at hc); first | (with_reducible replace hc := tTT hc); clear hc | (with_reducible replace hc := tFF hc); clear hc | (have hp := hc; try simp only [decide_eq_true_eq, decide_eq_false_iff_not, bA, bB, bC, bD, bE, bF, bG, bH] at hp))))
    | (refine Kn.go hK ?_; clear hK K)
    | refine Kn.go (by assumption) ?_
    | (intro n hn; (try simp only [upd_none2, join_none_iff, ite_none, ne_eq] at hn); (try simp only [push_cast, seval, *]))
    | (intro hc)
    | fail)
  exact ⟨_, _, Weak.refl _ _, rfl, rfl⟩
theorem u64_a (l : List Int) (ho : octs l) (h8 : 8 ≤ l.length) (hll : l.length ≤ 900000) (m : Nat) (H : Heap) (hm : H m = some (rdB l)) :
    ACall Try.prog 103 [.p m 2 0 0] H fun r H' => r = .c (.int .u64 (numB (l.take 8))) ∧ H' = upd H m (rdB (l.drop 8)) := by
  have hb := bits_a l ho 8 (by omega) (by omega) h8 (by omega) m H hm
  simp only [show ((8 * 8 : Nat) : Int) = 64 from rfl] at hb
  generalize numB (l.take 8) = X at *
  generalize l.drop 8 = L2 at *
  clear hm ho
  refine ACall_of' Try.func103 rfl (Ent_of Try.func103 (by kernel_rfl) rfl) (by simp [Try.ntmps103]) ?_; simp only [Try.ntmps103, Try.results103]
  repeat' (first
    | refine AW_seq_kn fun K hK => ?_
    | refine AW_block ?_
    | ((first
      | refine AW_region E0 ?_ | refine AW_ret ?_ | refine AW_exit ?_ | refine AW_skip ?_ | unfold retQ); try simp only [push_cast, seval, *])
    | (apply AW_cond; (case hc => (simp only [push_cast, seval]; rfl)); all_goals (intro hc; first | (exfalso; simp only [push_cast, seval, *] at hc; done) | (exact absurd hc (by decide)) | ((try first | rw [Bool.not_true] at hc | rw [Bool.not_false] at hc); first | (with_reducible replace hc := tTT hc); clear hc | (with_reducible replace hc := tFF hc); clear hc | (have hp := hc; try simp only [decide_eq_true_eq, decide_eq_false_iff_not, bA, bB, bC, bD, bE, bF, bG, bH] at hp))))
    | (refine Kn.go hK ?_; clear hK K)
    | refine Kn.go (by assumption) ?_
    | (intro n hn; (try simp only [upd_none2, join_none_iff, ite_none, ne_eq] at hn); (try simp only [push_cast, seval, *]))
    | (intro hc)
    | fail)
  refine does_call rfl rfl ?_
  simp only [push_cast, seval, *]
  refine ACall.mono hb ?_
  rintro q H' ⟨rfl, rfl⟩
  (try simp only [push_cast, seval, *])
  repeat' (first
    | refine AW_seq_kn fun K hK => ?_
    | refine AW_block ?_
    | ((first
      | refine AW_region E0 ?_ | refine AW_ret ?_ | refine AW_exit ?_ | refine AW_skip ?_ | unfold retQ); try simp only [push_cast, seval, *])
    | (apply AW_cond; (case hc => (simp only [push_cast, seval]; rfl)); all_goals (intro hc; first | (exfalso; simp only [push_cast, seval, *] at hc; done) | (exact absurd hc (by decide)) | ((try first | rw [Bool.not_true] at hc | rw [Bool.not_false] at hc); first | (with_reducible replace hc := tTT hc); clear hc | (with_reducible replace hc := tFF hc); clear hc | (have hp := hc; try simp only [decide_eq_true_eq, decide_eq_false_iff_not, bA, bB, bC, bD, bE, bF, bG, bH] at hp))))
    | (refine Kn.go hK ?_; clear hK K)
    | refine Kn.go (by assumption) ?_
    | (intro n hn; (try simp only [upd_none2, join_none_iff, ite_none, ne_eq] at hn); (try simp only [push_cast, seval, *]))
    | (intro hc)
    | fail)
  exact ⟨_, _, Weak.refl _ _, rfl, rfl⟩
theorem read_a (l : List Int) (hl : l.length ≤ 900000) (H : Heap) :
    ACall Try.prog 101 [.l 1 (l.map by1)] H fun r H' => ∃ m, r = .p m 2 0 0 ∧ H m = none ∧ H' = upd H m (rdB l) := by
  have hcl := bclone_p l (by omega)
  refine ACall_of' Try.func101 rfl (Ent_of Try.func101 (by kernel_rfl) rfl) (by simp [Try.ntmps101]) ?_; simp only [Try.ntmps101, Try.results101]
  repeat' (first
    | refine AW_seq_kn fun K hK => ?_
    | refine AW_block ?_
    | (refine does_call rfl rfl ?_; simp only [push_cast, seval, *]; refine ACall.monoP (hcl _) ?_; (try simp only [push_cast, seval, *]))
    | ((first
      | refine AW_region E0 ?_ | refine AW_ret ?_ | refine AW_exit ?_ | refine AW_skip ?_ | unfold retQ); try simp only [push_cast, seval, *])
    | (apply AW_cond; (case hc => (simp only [push_cast, seval]; rfl)); all_goals (intro hc; first | (exfalso; simp only [push_cast, seval, *] at hc; done) | (exact absurd hc (by decide)) | ((try first | rw [Bool.not_true] at hc | rw [Bool.not_false] at hc); first | (with_reducible replace hc := tTT hc); clear hc | (with_reducible replace hc := tFF hc); clear hc | (have hp := hc; try simp only [decide_eq_true_eq, decide_eq_false_iff_not, bA, bB, bC, bD, bE, bF, bG, bH] at hp))))
    | (refine Kn.go hK ?_; clear hK K)
    | refine Kn.go (by assumption) ?_
    | (intro n hn; (try simp only [upd_none2, join_none_iff, ite_none, ne_eq] at hn); (try simp only [push_cast, seval, *]))
    | (intro hc)
    | fail)
  exact ⟨_, _, Weak.refl _ _, n, rfl, hn, rfl⟩
end Go.Proofs.Ytmkncbddjnaklaa
