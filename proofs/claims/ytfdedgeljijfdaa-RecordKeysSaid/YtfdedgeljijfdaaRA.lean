/- Walks: a reader of bytes that may refuse. -/
import Derived.Test.YtfdedgeljijfdaaUD
namespace Go.Proofs.Ytfdedgeljijfdaa
open Go.RowKit
open Nat renaming reduceEqDiff → nA, reduceLT → nB, reduceLeDiff → nC, reduceAdd → nD, reduceMul → nE, reduceSub → nF, reduceBEq → nG
open Int renaming reduceToNat → iA, reduceLT → iB, reduceLE → iC, reduceEq → iD
open Bool renaming and_eq_true → bA, or_eq_true → bB, or_eq_false_iff → bC, and_eq_false_iff → bD, not_eq_true' → bE, not_eq_false' → bF, not_true → bG, not_false → bH
set_option linter.all false
set_option maxHeartbeats 4000000
attribute [local irreducible] AW Does ACall tE tS tB tZ
def dLRA0 : List En := [(0, false, []), (1, false, []), (2, false, []), (3, false, []), (4, false, []), (5, false, []), (6, false, []), (7, false, []), (8, false, []), (9, false, []), (10, false, []), (11, false, []), (12, false, []), (13, false, []), (14, false, [])]
def dARA0 : List (List Nat) := [[], [], [], [2], [2, 3], [], [2, 3, 4, 5], [1, 2, 3, 4, 5, 6], [1, 2, 3, 4, 5, 6, 7], [1, 2, 3, 4, 5, 6, 7, 8], [], [10], [1, 2, 3, 4, 5, 6, 7, 8, 9, 10, 11], [0, 1, 2, 3, 4, 5, 6, 7, 8, 9, 10, 11, 12], [0, 1, 2, 3, 4, 5, 6, 7, 8, 9, 10, 11, 12, 13]]
attribute [push_cast] dLRA0

section
variable {P : Program} {o : Oper} {a : Nat → AV} {H : Heap} {K : AV → Heap → Prop}
theorem eqptr_run {t e : TypeId} (hu : P.underlying t = some (.pointer e)) (ad : Addr) (w : World) : (Op.equal t (.pointer (some ad)) (.pointer none)).run P w = .ok false w := by
  have hu : ∀ w : World, (underlying t).run P w = .ok (.pointer e) w := fun w => by first | exact run_underlying hu | exact run_underlying hu w
  rw [show Op.equal t (.pointer (some ad)) (.pointer none) = Op.equalIn (9999 + 1) t (.pointer (some ad)) (.pointer none) from rfl]
  unfold Op.equalIn
  simp [Sem.run_bind, hu]
/-- a pointer that leads somewhere is not nil -/
theorem does_ptrnil {t t' e : TypeId} {x y : Operand} {n sz i j : Nat} (ho : o.op = .binOp .eql t x y t') (hx : ev a x = .p n sz i j) (hy : ev a y = .c (.pointer none)) (hu : P.underlying t = some (.pointer e))
    (h : K (.c (.bool false)) H) : Does P o a H K :=
  Does.ran (fun c => by simp [ho]) fun F w act hv hs => by
    have h1 := hv.ev x
    rw [hx] at h1
    have e1 := h1.p_inv
    refine ⟨.bool false, w, F, H, .c (.bool false), ?_, .c _, hs, Ext.refl _ _ _, h⟩
    have hg : eqGuard .eql t x y (.pointer (some ⟨n, i * sz + j, none⟩)) (.pointer none) = pure () := by rfl
    rw [show execOp act.eval o = (do pure (.value (← (do eqGuard .eql t x y (.pointer (some ⟨n, i * sz + j, none⟩)) (.pointer none); binOp .eql t (.pointer (some ⟨n, i * sz + j, none⟩)) (.pointer none))))) by simp [execOp, ho, e1, hv.c hy], hg]
    rw [show binOp .eql t (.pointer (some ⟨n, i * sz + j, none⟩)) (.pointer none) = (do pure (.bool (← Op.equal t (.pointer (some ⟨n, i * sz + j, none⟩)) (.pointer none)))) from rfl]
    simp [Sem.run_bind, eqptr_run hu]
end
theorem binV_shlK {k k' : IntKind} (x : Int) (n : Nat) (hn : n ≤ 64) (t : TypeId) : binV Try.prog .shl t (.c (.int .u64 x)) (.c (.int .i64 (n : Int))) = some (.c (.int .u64 (IntKind.u64.wrap (x * 2 ^ n)))) := by
  have hm : min ((n : Nat) : Int).toNat IntKind.u64.bits = n := by
    rw [Int.toNat_natCast]; show min _ 64 = _; omega
  unfold binV
  simp only [if_true, hm, Int.natCast_nonneg, ite_self]
abbrev u64B (x : Int) : Blk := .r 35 1 1 [[.c (.int .u64 x)]]
theorem bits1_a (l : List Int) (ho : octs l) (hl : l.length ≤ 8) (bx : Nat) (H : Heap) (hH : H bx = some (u64B 0)) :
    ACall Try.prog 53 ([.l 1 (l.map by1)] ++ [.p bx 1 0 0]) H fun _ H' => H' = upd H bx (u64B (numB l)) := by
  simp only [List.cons_append, List.nil_append]
  refine ACall_of' Try.func53 rfl (Ent_of Try.func53 (by kernel_rfl) rfl) (by simp [Try.ntmps53]) ?_; simp only [Try.ntmps53, Try.results53]
  repeat' (first
    | refine AW_seq_kn fun K hK => ?_
    | refine AW_block ?_
    | ((first
      | refine AW_region_draw (id := 3) E0 (fun f => [].contains f) dLRA0 dARA0 mixed (by kernel_rfl) ?_
      | refine AW_region E0 ?_ | refine AW_ret ?_ | refine AW_exit ?_ | refine AW_skip ?_ | unfold retQ); try simp only [push_cast, seval, *])
    | (apply AW_cond; (case hc => (simp only [push_cast, seval]; rfl)); all_goals (intro hc; first | (exfalso; simp only [push_cast, seval, *] at hc; done) | (exact absurd hc (by decide)) | ((try first | rw [Bool.not_true] at hc | rw [Bool.not_false] at hc); first | (with_reducible replace hc := tTT hc); clear hc | (with_reducible replace hc := tFF hc); clear hc | (have hp := hc; try simp only [decide_eq_true_eq, decide_eq_false_iff_not, bA, bB, bC, bD, bE, bF, bG, bH] at hp))))
    | (refine Kn.go hK ?_; clear hK K)
    | refine Kn.go (by assumption) ?_
    | (intro n hn; (try simp only [upd_none2, join_none_iff, ite_none, ne_eq] at hn); (try simp only [push_cast, seval, *]))
    | (intro hc)
    | fail)
  refine AW_loopN l.length (fun _ => True) (fun k => [(0, .l 1 (l.map by1)), (1, .p bx 1 0 0), (5, ci l.length), (6, ci k)]) (fun k => upd H bx (u64B (numB (l.drop (l.length - k))))) trivial ?_ ?_ ?_ ?_
  · (first | trivial | (simp only [push_cast, seval, *]; done))
  · rw [Nat.sub_zero, List.drop_length]
    show Heap.le (upd H bx (u64B 0)) H
    rw [upd_self hH]; exact Heap.le_refl _
  · rintro k hk -
    have hkl : (k : Int) < l.length := (by omega); have hkw : IntKind.i64.wrap ((k : Int) + 1) = (k : Int) + 1 := wrap_i64 (by omega) (by omega)
    obtain ⟨c, hc⟩ : ∃ c, l[l.length - 1 - k]? = some c := ⟨_, List.getElem?_eq_getElem (by omega)⟩
    have hoc := ho c (List.mem_of_getElem? hc)
    have hbs := bit_step hk hc ho hl
    have hw1 : IntKind.i64.wrap ((l.length : Int) - 1) = (l.length : Int) - 1 := wrap_i64 (by omega) (by omega)
    obtain ⟨i, hi⟩ : ∃ i, i = l.length - 1 - k := ⟨_, rfl⟩
    have hw2 : IntKind.i64.wrap ((l.length : Int) - 1 - (k : Int)) = (i : Int) := by rw [wrap_i64 (by omega) (by omega)]; omega
    have hil : (i : Int) < l.length := by omega
    have hw3 : IntKind.i64.wrap (8 * (k : Int)) = ((8 * k : Nat) : Int) := by rw [wrap_i64 (by omega) (by omega)]; omega
    have hcv : IntKind.u64.wrap c = c := wrap_u64 (by omega) (by omega)
    have hsh := fun t => binV_shlK (k := .u64) (k' := .u64) c (8 * k) (by omega) t
    rw [← hi] at hc
    have hby : by1 c = [.c (.int .u8 c)] := rfl
    generalize numB (l.drop (l.length - k)) = X at *
    generalize numB (l.drop (l.length - (k + 1))) = Z at *
    generalize IntKind.u64.wrap (c * 2 ^ (8 * k)) = Y at *
    generalize ((8 * k : Nat) : Int) = K8 at *
    clear hoc hi
    simp only [u64B]
    repeat' (first
    | refine AW_seq_kn fun K hK => ?_
    | refine AW_block ?_
    | ((first
      | refine AW_region_draw (id := 3) E0 (fun f => [].contains f) dLRA0 dARA0 mixed (by kernel_rfl) ?_
      | refine AW_region E0 ?_ | refine AW_ret ?_ | refine AW_exit ?_ | refine AW_skip ?_ | unfold retQ); try simp only [push_cast, seval, *])
    | (apply AW_cond; (case hc => (simp only [push_cast, seval]; rfl)); all_goals (intro hc; first | (exfalso; simp only [push_cast, seval, *] at hc; done) | (exact absurd hc (by decide)) | ((try first | rw [Bool.not_true] at hc | rw [Bool.not_false] at hc); first | (with_reducible replace hc := tTT hc); clear hc | (with_reducible replace hc := tFF hc); clear hc | (have hp := hc; try simp only [decide_eq_true_eq, decide_eq_false_iff_not, bA, bB, bC, bD, bE, bF, bG, bH] at hp))))
    | (refine Kn.go hK ?_; clear hK K)
    | refine Kn.go (by assumption) ?_
    | (intro n hn; (try simp only [upd_none2, join_none_iff, ite_none, ne_eq] at hn); (try simp only [push_cast, seval, *]))
    | (intro hc)
    | fail)
    exact ⟨trivial, by (first | trivial | (simp only [push_cast, seval, *]; done)), by first | trivial | rfl | (repeat' (first | exact Heap.le_refl _ | refine hle_upd2 ?_ _ _ | (refine Heap.le_new ?_ ?_; rotate_left 1; focus (first | assumption | (simp only [upd_none2, upd_get, ne_eq, push_cast, seval, *]; done) | (simp [upd_get, *]; done)))))⟩
  · rintro -
    rw [Nat.sub_self, List.drop_zero]
    repeat' (first
    | refine AW_seq_kn fun K hK => ?_
    | refine AW_block ?_
    | ((first
      | refine AW_region_draw (id := 3) E0 (fun f => [].contains f) dLRA0 dARA0 mixed (by kernel_rfl) ?_
      | refine AW_region E0 ?_ | refine AW_ret ?_ | refine AW_exit ?_ | refine AW_skip ?_ | unfold retQ); try simp only [push_cast, seval, *])
    | (apply AW_cond; (case hc => (simp only [push_cast, seval]; rfl)); all_goals (intro hc; first | (exfalso; simp only [push_cast, seval, *] at hc; done) | (exact absurd hc (by decide)) | ((try first | rw [Bool.not_true] at hc | rw [Bool.not_false] at hc); first | (with_reducible replace hc := tTT hc); clear hc | (with_reducible replace hc := tFF hc); clear hc | (have hp := hc; try simp only [decide_eq_true_eq, decide_eq_false_iff_not, bA, bB, bC, bD, bE, bF, bG, bH] at hp))))
    | (refine Kn.go hK ?_; clear hK K)
    | refine Kn.go (by assumption) ?_
    | (intro n hn; (try simp only [upd_none2, join_none_iff, ite_none, ne_eq] at hn); (try simp only [push_cast, seval, *]))
    | (intro hc)
    | fail)
    exact ⟨_, _, Weak.refl _ _, rfl⟩
abbrev rdE (l : List Int) (e : Int) : Blk := .r 77 2 1 [[.l 1 (l.map by1), .c (.int .i64 e)]]
def gvX (nb : Nat) (l : List Int) (e : Int) : Int := if e = 0 ∧ nb ≤ l.length then numB (l.take nb) else 0
def gvL (nb : Nat) (l : List Int) (e : Int) : List Int := if e = 0 ∧ nb ≤ l.length then l.drop nb else l
def gvE (nb : Nat) (l : List Int) (e : Int) : Int := if e = 0 then (if nb ≤ l.length then 0 else 7) else e
theorem gvL_len (nb : Nat) (l : List Int) (e : Int) : (gvL nb l e).length ≤ l.length := by
  unfold gvL; split
  · simp
  · exact Nat.le_refl _
theorem gvL_octs {nb : Nat} {l : List Int} {e : Int} (ho : octs l) : octs (gvL nb l e) := by
  unfold gvL; split
  · exact fun c hc => ho c (List.mem_of_mem_drop hc)
  · exact ho
theorem give_g (l : List Int) (ho : octs l) (e : Int) (nb : Nat) (hn1 : 1 ≤ nb) (hn8 : nb ≤ 8) (hll : l.length ≤ 1000000) (m bx : Nat) (hne : ¬ m = bx) (H : Heap) (hm : H m = some (rdE l e)) (hb : H bx = some (u64B 0)) :
    ACall Try.prog 52 [.p m 2 0 0, .c (.int .i64 (nb : Int)), .f (.func 53) [] [.p bx 1 0 0]] H fun _ H' => H' = upd (upd H bx (u64B (gvX nb l e))) m (rdE (gvL nb l e) (gvE nb l e)) := by
  have hne2 : ¬ bx = m := fun e => hne e.symm
  by_cases he : e = 0
  · subst he
    by_cases hnl : nb ≤ l.length
    · have eX : gvX nb l 0 = numB (l.take nb) := if_pos ⟨rfl, hnl⟩
      have eL : gvL nb l 0 = l.drop nb := if_pos ⟨rfl, hnl⟩
      have eE : gvE nb l 0 = 0 := by simp [gvE, hnl]
      rw [eX, eL, eE]
      have hb1 := bits1_a (l.take nb) (ho.take nb) (by rw [List.length_take]; omega) bx H hb
      have htk : List.take nb (l.map by1) = (l.take nb).map by1 := List.map_take.symm
      have hdt : List.take (l.length - nb) (List.drop nb (l.map by1)) = (l.drop nb).map by1 := by rw [List.take_of_length_le (by simp), List.map_drop]
      have hn0 : ¬ (nb : Int) < 0 := by omega
      have hnl2 : ¬ (l.length : Int) < nb := by omega
      have hnl3 : (nb : Int) ≤ l.length := by omega
      have hn1I : (0 : Int) < nb := by omega
      generalize l.take nb = L1 at *
      generalize l.drop nb = L2 at *
      generalize numB L1 = X at *
      clear eX eL eE
      simp only [rdE, u64B, List.cons_append, List.nil_append] at hm hb hb1 ⊢
      refine ACall_of' Try.func52 rfl (Ent_of Try.func52 (by kernel_rfl) rfl) (by simp [Try.ntmps52]) ?_; simp only [Try.ntmps52, Try.results52]
      repeat' (first
    | refine AW_seq_kn fun K hK => ?_
    | refine AW_block ?_
    | ((first
      | refine AW_region E0 ?_ | refine AW_ret ?_ | refine AW_exit ?_ | refine AW_skip ?_ | unfold retQ); try simp only [push_cast, seval, *])
    | (apply AW_cond; (case hc => (simp only [push_cast, seval]; rfl)); all_goals (intro hc; first | (exfalso; simp only [push_cast, seval, *] at hc; done) | (exact absurd hc (by decide)) | ((try first | rw [Bool.not_true] at hc | rw [Bool.not_false] at hc); first | (with_reducible replace hc := tTT hc); clear hc | (with_reducible replace hc := tFF hc); clear hc | (have hp := hc; try simp only [decide_eq_true_eq, decide_eq_false_iff_not, bA, bB, bC, bD, bE, bF, bG, bH] at hp))))
    | (refine Kn.go hK ?_; clear hK K)
    | refine Kn.go (by assumption) ?_
    | (intro n hn; (try simp only [upd_none2, join_none_iff, ite_none, ne_eq] at hn); (try simp only [push_cast, seval, *]))
    | (intro hc)
    | fail)
      refine does_call_f rfl (by simp only [push_cast, seval]; rfl) ?_
      simp only [push_cast, seval, *, List.append_nil, List.nil_append, List.cons_append]
      refine ACall.mono hb1 ?_
      rintro q _ rfl
      (try simp only [push_cast, seval, *])
      repeat' (first
    | refine AW_seq_kn fun K hK => ?_
    | refine AW_block ?_
    | ((first
      | refine AW_region E0 ?_ | refine AW_ret ?_ | refine AW_exit ?_ | refine AW_skip ?_ | unfold retQ); try simp only [push_cast, seval, *])
    | (apply AW_cond; (case hc => (simp only [push_cast, seval]; rfl)); all_goals (intro hc; first | (exfalso; simp only [push_cast, seval, *] at hc; done) | (exact absurd hc (by decide)) | ((try first | rw [Bool.not_true] at hc | rw [Bool.not_false] at hc); first | (with_reducible replace hc := tTT hc); clear hc | (with_reducible replace hc := tFF hc); clear hc | (have hp := hc; try simp only [decide_eq_true_eq, decide_eq_false_iff_not, bA, bB, bC, bD, bE, bF, bG, bH] at hp))))
    | (refine Kn.go hK ?_; clear hK K)
    | refine Kn.go (by assumption) ?_
    | (intro n hn; (try simp only [upd_none2, join_none_iff, ite_none, ne_eq] at hn); (try simp only [push_cast, seval, *]))
    | (intro hc)
    | fail)
      exact ⟨_, _, Weak.refl _ _, rfl⟩
    · have hq : gvX nb l 0 = 0 ∧ gvL nb l 0 = l ∧ gvE nb l 0 = 7 := by simp [gvX, gvL, gvE, hnl]
      rw [hq.1, hq.2.1, hq.2.2, upd_self hb]
      have hn0 : ¬ (nb : Int) < 0 := by omega
      have hnl2 : (l.length : Int) < nb := by omega
      clear hq
      simp only [rdE, u64B] at hm hb ⊢
      refine ACall_of' Try.func52 rfl (Ent_of Try.func52 (by kernel_rfl) rfl) (by simp [Try.ntmps52]) ?_; simp only [Try.ntmps52, Try.results52]
      repeat' (first
    | refine AW_seq_kn fun K hK => ?_
    | refine AW_block ?_
    | ((first
      | refine AW_region E0 ?_ | refine AW_ret ?_ | refine AW_exit ?_ | refine AW_skip ?_ | unfold retQ); try simp only [push_cast, seval, *])
    | (apply AW_cond; (case hc => (simp only [push_cast, seval]; rfl)); all_goals (intro hc; first | (exfalso; simp only [push_cast, seval, *] at hc; done) | (exact absurd hc (by decide)) | ((try first | rw [Bool.not_true] at hc | rw [Bool.not_false] at hc); first | (with_reducible replace hc := tTT hc); clear hc | (with_reducible replace hc := tFF hc); clear hc | (have hp := hc; try simp only [decide_eq_true_eq, decide_eq_false_iff_not, bA, bB, bC, bD, bE, bF, bG, bH] at hp))))
    | (refine Kn.go hK ?_; clear hK K)
    | refine Kn.go (by assumption) ?_
    | (intro n hn; (try simp only [upd_none2, join_none_iff, ite_none, ne_eq] at hn); (try simp only [push_cast, seval, *]))
    | (intro hc)
    | fail)
      exact ⟨_, _, Weak.refl _ _, rfl⟩
  · have hq : gvX nb l e = 0 ∧ gvL nb l e = l ∧ gvE nb l e = e := by simp [gvX, gvL, gvE, he]
    rw [hq.1, hq.2.1, hq.2.2, upd_self hb, upd_self hm]
    clear hq
    simp only [rdE, u64B] at hm hb ⊢
    refine ACall_of' Try.func52 rfl (Ent_of Try.func52 (by kernel_rfl) rfl) (by simp [Try.ntmps52]) ?_; simp only [Try.ntmps52, Try.results52]
    repeat' (first
    | refine AW_seq_kn fun K hK => ?_
    | refine AW_block ?_
    | ((first
      | refine AW_region E0 ?_ | refine AW_ret ?_ | refine AW_exit ?_ | refine AW_skip ?_ | unfold retQ); try simp only [push_cast, seval, *])
    | (apply AW_cond; (case hc => (simp only [push_cast, seval]; rfl)); all_goals (intro hc; first | (exfalso; simp only [push_cast, seval, *] at hc; done) | (exact absurd hc (by decide)) | ((try first | rw [Bool.not_true] at hc | rw [Bool.not_false] at hc); first | (with_reducible replace hc := tTT hc); clear hc | (with_reducible replace hc := tFF hc); clear hc | (have hp := hc; try simp only [decide_eq_true_eq, decide_eq_false_iff_not, bA, bB, bC, bD, bE, bF, bG, bH] at hp))))
    | (refine Kn.go hK ?_; clear hK K)
    | refine Kn.go (by assumption) ?_
    | (intro n hn; (try simp only [upd_none2, join_none_iff, ite_none, ne_eq] at hn); (try simp only [push_cast, seval, *]))
    | (intro hc)
    | fail)
    exact ⟨_, _, Weak.refl _ _, rfl⟩
theorem bits_g (l : List Int) (ho : octs l) (e : Int) (nb : Nat) (hn1 : 1 ≤ nb) (hn8 : nb ≤ 8) (hll : l.length ≤ 1000000) (m : Nat) (H : Heap) (hm : H m = some (rdE l e)) :
    ACall Try.prog 45 [.p m 2 0 0, .c (.int .i64 ((8 * nb : Nat) : Int))] H fun r H' => r = .c (.int .u64 (gvX nb l e)) ∧ H' = upd H m (rdE (gvL nb l e) (gvE nb l e)) := by
  have hqd : ((8 * nb : Nat) : Int).tdiv 8 = (nb : Int) := by
    rw [show ((8 * nb : Nat) : Int) = 8 * (nb : Int) by omega]; exact Int.mul_tdiv_cancel_left _ (by omega)
  have hqw : IntKind.i64.wrap (nb : Int) = (nb : Int) := wrap_i64 (by omega) (by omega)
  have hgv := fun bx hne H hm hb => give_g l ho e nb hn1 hn8 hll m bx hne H hm hb
  have hpt := Try.underlying56
  generalize gvX nb l e = X at *
  generalize gvL nb l e = L2 at *
  generalize gvE nb l e = E2 at *
  generalize ((8 * nb : Nat) : Int) = B8 at *
  have hno := ne_old hm
  simp only [rdE] at hm
  replace hgv := Lib.hid hgv
  refine ACall_of' Try.func45 rfl (Ent_of Try.func45 (by kernel_rfl) rfl) (by simp [Try.ntmps45]) ?_; simp only [Try.ntmps45, Try.results45]
  repeat' (first
    | refine AW_seq_kn fun K hK => ?_
    | refine AW_block ?_
    | (refine does_ptrnil rfl rfl rfl hpt ?_; (try simp only [push_cast, seval, *]))
    | ((first
      | refine AW_region E0 ?_ | refine AW_ret ?_ | refine AW_exit ?_ | refine AW_skip ?_ | unfold retQ); try simp only [push_cast, seval, *])
    | (apply AW_cond; (case hc => (simp only [push_cast, seval]; rfl)); all_goals (intro hc; first | (exfalso; simp only [push_cast, seval, *] at hc; done) | (exact absurd hc (by decide)) | ((try first | rw [Bool.not_true] at hc | rw [Bool.not_false] at hc); first | (with_reducible replace hc := tTT hc); clear hc | (with_reducible replace hc := tFF hc); clear hc | (have hp := hc; try simp only [decide_eq_true_eq, decide_eq_false_iff_not, bA, bB, bC, bD, bE, bF, bG, bH] at hp))))
    | (refine Kn.go hK ?_; clear hK K)
    | refine Kn.go (by assumption) ?_
    | (intro n hn; (try simp only [upd_none2, join_none_iff, ite_none, ne_eq] at hn); (try simp only [push_cast, seval, *]))
    | (intro hc)
    | fail)
  generalize n = bx at *
  have hnm : ¬ m = bx := of_eq_false (hno bx hn).1
  have hmn : ¬ bx = m := of_eq_false (hno bx hn).2
  refine does_call rfl rfl ?_
  simp only [push_cast, seval, *]
  refine ACall.mono (unhid hgv bx hnm _ (by rw [upd_ne hnm]; exact hm) (upd_same _ _ _)) ?_
  rintro q _ rfl
  have hx5 : upd (upd (upd H bx (u64B 0)) bx (u64B X)) m (rdE L2 E2) bx = some (u64B X) := by rw [upd_ne hmn, upd_same]
  simp only [u64B, rdE] at hx5
  have hfin : Heap.le (upd H m (rdE L2 E2)) (upd (upd H bx (u64B X)) m (rdE L2 E2)) := fun q z hq => by
    by_cases e : q = m
    · subst e; rw [upd_same] at hq ⊢; exact hq
    · rw [upd_ne e] at hq ⊢
      have e2 : q ≠ bx := by rintro rfl; rw [hn] at hq; cases hq
      rw [upd_ne e2]; exact hq
  replace hfin := Lib.hid hfin
  clear hgv
  (try simp only [push_cast, seval, *])
  repeat' (first
    | refine AW_seq_kn fun K hK => ?_
    | refine AW_block ?_
    | ((first
      | refine AW_region E0 ?_ | refine AW_ret ?_ | refine AW_exit ?_ | refine AW_skip ?_ | unfold retQ); try simp only [push_cast, seval, *])
    | (apply AW_cond; (case hc => (simp only [push_cast, seval]; rfl)); all_goals (intro hc; first | (exfalso; simp only [push_cast, seval, *] at hc; done) | (exact absurd hc (by decide)) | ((try first | rw [Bool.not_true] at hc | rw [Bool.not_false] at hc); first | (with_reducible replace hc := tTT hc); clear hc | (with_reducible replace hc := tFF hc); clear hc | (have hp := hc; try simp only [decide_eq_true_eq, decide_eq_false_iff_not, bA, bB, bC, bD, bE, bF, bG, bH] at hp))))
    | (refine Kn.go hK ?_; clear hK K)
    | refine Kn.go (by assumption) ?_
    | (intro n hn; (try simp only [upd_none2, join_none_iff, ite_none, ne_eq] at hn); (try simp only [push_cast, seval, *]))
    | (intro hc)
    | fail)
  exact ⟨_, _, Weak.less (unhid hfin), rfl, rfl⟩
theorem gvX1_bd {l : List Int} (ho : octs l) (e : Int) : 0 ≤ gvX 1 l e ∧ gvX 1 l e < 256 := by
  unfold gvX
  split
  · rename_i h
    cases l with
    | nil => simp at h
    | cons b l => have := ho b (by simp); simp [numB]; omega
  · omega
theorem u8_g (l : List Int) (ho : octs l) (e : Int) (hll : l.length ≤ 1000000) (m : Nat) (H : Heap) (hm : H m = some (rdE l e)) :
    ACall Try.prog 28 [.p m 2 0 0] H fun r H' => r = .c (.int .u8 (gvX 1 l e)) ∧ H' = upd H m (rdE (gvL 1 l e) (gvE 1 l e)) := by
  have hb := bits_g l ho e 1 (by omega) (by omega) hll m H hm
  have hbb := gvX1_bd ho e
  have hw : IntKind.u8.wrap (gvX 1 l e) = gvX 1 l e := wrap_u8 (by omega) (by omega)
  simp only [show ((8 * 1 : Nat) : Int) = 8 from rfl] at hb
  generalize gvX 1 l e = X at *
  generalize gvL 1 l e = L2 at *
  generalize gvE 1 l e = E2 at *
  clear hm ho hbb
  refine ACall_of' Try.func28 rfl (Ent_of Try.func28 (by kernel_rfl) rfl) (by simp [Try.ntmps28]) ?_; simp only [Try.ntmps28, Try.results28]
  repeat' (first
    | refine AW_seq_kn fun K hK => ?_
    | refine AW_block ?_
    | ((first
      | refine AW_region E0 ?_ | refine AW_ret ?_ | refine AW_exit ?_ | refine AW_skip ?_ | unfold retQ); try simp only [push_cast, seval, *])
    | (apply AW_cond; (case hc => (simp only [push_cast, seval]; rfl)); all_goals (intro hc; first | (exfalso; simp only [push_cast, seval, *] at hc; done) | (exact absurd hc (by decide)) | ((try first | rw [Bool.not_true] at hc | rw [Bool.not_false] at hc); first | (with_reducible replace hc := tTT hc); clear hc | (with_reducible replace hc := tFF hc); clear hc | (have hp := hc; try simp only [decide_eq_true_eq, decide_eq_false_iff_not, bA, bB, bC, bD, bE, bF, bG, bH] at hp))))
    | (refine Kn.go hK ?_; clear hK K)
    | refine Kn.go (by assumption) ?_
    | (intro n hn; (try simp only [upd_none2, join_none_iff, ite_none, ne_eq] at hn); (try simp only [push_cast, seval, *]))
    | (intro hc)
    | fail)
  refine does_call rfl rfl ?_
  simp only [push_cast, seval, *]
  refine ACall.mono hb ?_
  rintro q H' ⟨rfl, rfl⟩
  (try simp only [push_cast, seval, *])
  repeat' (first
    | refine AW_seq_kn fun K hK => ?_
    | refine AW_block ?_
    | ((first
      | refine AW_region E0 ?_ | refine AW_ret ?_ | refine AW_exit ?_ | refine AW_skip ?_ | unfold retQ); try simp only [push_cast, seval, *])
    | (apply AW_cond; (case hc => (simp only [push_cast, seval]; rfl)); all_goals (intro hc; first | (exfalso; simp only [push_cast, seval, *] at hc; done) | (exact absurd hc (by decide)) | ((try first | rw [Bool.not_true] at hc | rw [Bool.not_false] at hc); first | (with_reducible replace hc := tTT hc); clear hc | (with_reducible replace hc := tFF hc); clear hc | (have hp := hc; try simp only [decide_eq_true_eq, decide_eq_false_iff_not, bA, bB, bC, bD, bE, bF, bG, bH] at hp))))
    | (refine Kn.go hK ?_; clear hK K)
    | refine Kn.go (by assumption) ?_
    | (intro n hn; (try simp only [upd_none2, join_none_iff, ite_none, ne_eq] at hn); (try simp only [push_cast, seval, *]))
    | (intro hc)
    | fail)
  exact ⟨_, _, Weak.refl _ _, rfl, rfl⟩
theorem u64_g (l : List Int) (ho : octs l) (e : Int) (hll : l.length ≤ 1000000) (m : Nat) (H : Heap) (hm : H m = some (rdE l e)) :
    ACall Try.prog 47 [.p m 2 0 0] H fun r H' => r = .c (.int .u64 (gvX 8 l e)) ∧ H' = upd H m (rdE (gvL 8 l e) (gvE 8 l e)) := by
  have hb := bits_g l ho e 8 (by omega) (by omega) hll m H hm
  simp only [show ((8 * 8 : Nat) : Int) = 64 from rfl] at hb
  generalize gvX 8 l e = X at *
  generalize gvL 8 l e = L2 at *
  generalize gvE 8 l e = E2 at *
  clear hm ho
  refine ACall_of' Try.func47 rfl (Ent_of Try.func47 (by kernel_rfl) rfl) (by simp [Try.ntmps47]) ?_; simp only [Try.ntmps47, Try.results47]
  repeat' (first
    | refine AW_seq_kn fun K hK => ?_
    | refine AW_block ?_
    | ((first
      | refine AW_region E0 ?_ | refine AW_ret ?_ | refine AW_exit ?_ | refine AW_skip ?_ | unfold retQ); try simp only [push_cast, seval, *])
    | (apply AW_cond; (case hc => (simp only [push_cast, seval]; rfl)); all_goals (intro hc; first | (exfalso; simp only [push_cast, seval, *] at hc; done) | (exact absurd hc (by decide)) | ((try first | rw [Bool.not_true] at hc | rw [Bool.not_false] at hc); first | (with_reducible replace hc := tTT hc); clear hc | (with_reducible replace hc := tFF hc); clear hc | (have hp := hc; try simp only [decide_eq_true_eq, decide_eq_false_iff_not, bA, bB, bC, bD, bE, bF, bG, bH] at hp))))
    | (refine Kn.go hK ?_; clear hK K)
    | refine Kn.go (by assumption) ?_
    | (intro n hn; (try simp only [upd_none2, join_none_iff, ite_none, ne_eq] at hn); (try simp only [push_cast, seval, *]))
    | (intro hc)
    | fail)
  refine does_call rfl rfl ?_
  simp only [push_cast, seval, *]
  refine ACall.mono hb ?_
  rintro q H' ⟨rfl, rfl⟩
  (try simp only [push_cast, seval, *])
  repeat' (first
    | refine AW_seq_kn fun K hK => ?_
    | refine AW_block ?_
    | ((first
      | refine AW_region E0 ?_ | refine AW_ret ?_ | refine AW_exit ?_ | refine AW_skip ?_ | unfold retQ); try simp only [push_cast, seval, *])
    | (apply AW_cond; (case hc => (simp only [push_cast, seval]; rfl)); all_goals (intro hc; first | (exfalso; simp only [push_cast, seval, *] at hc; done) | (exact absurd hc (by decide)) | ((try first | rw [Bool.not_true] at hc | rw [Bool.not_false] at hc); first | (with_reducible replace hc := tTT hc); clear hc | (with_reducible replace hc := tFF hc); clear hc | (have hp := hc; try simp only [decide_eq_true_eq, decide_eq_false_iff_not, bA, bB, bC, bD, bE, bF, bG, bH] at hp))))
    | (refine Kn.go hK ?_; clear hK K)
    | refine Kn.go (by assumption) ?_
    | (intro n hn; (try simp only [upd_none2, join_none_iff, ite_none, ne_eq] at hn); (try simp only [push_cast, seval, *]))
    | (intro hc)
    | fail)
  exact ⟨_, _, Weak.refl _ _, rfl, rfl⟩
theorem read_g (l : List Int) (hl : l.length ≤ 900000) (H : Heap) :
    ACall Try.prog 27 [.l 1 (l.map by1)] H fun r H' => ∃ m, r = .p m 2 0 0 ∧ H m = none ∧ H' = upd H m (rdE l 0) := by
  have hcl := bclone_p l (by omega)
  refine ACall_of' Try.func27 rfl (Ent_of Try.func27 (by kernel_rfl) rfl) (by simp [Try.ntmps27]) ?_; simp only [Try.ntmps27, Try.results27]
  repeat' (first
    | refine AW_seq_kn fun K hK => ?_
    | refine AW_block ?_
    | (refine does_call rfl rfl ?_; simp only [push_cast, seval, *]; refine ACall.monoP (hcl _) ?_; (try simp only [push_cast, seval, *]))
    | ((first
      | refine AW_region E0 ?_ | refine AW_ret ?_ | refine AW_exit ?_ | refine AW_skip ?_ | unfold retQ); try simp only [push_cast, seval, *])
    | (apply AW_cond; (case hc => (simp only [push_cast, seval]; rfl)); all_goals (intro hc; first | (exfalso; simp only [push_cast, seval, *] at hc; done) | (exact absurd hc (by decide)) | ((try first | rw [Bool.not_true] at hc | rw [Bool.not_false] at hc); first | (with_reducible replace hc := tTT hc); clear hc | (with_reducible replace hc := tFF hc); clear hc | (have hp := hc; try simp only [decide_eq_true_eq, decide_eq_false_iff_not, bA, bB, bC, bD, bE, bF, bG, bH] at hp))))
    | (refine Kn.go hK ?_; clear hK K)
    | refine Kn.go (by assumption) ?_
    | (intro n hn; (try simp only [upd_none2, join_none_iff, ite_none, ne_eq] at hn); (try simp only [push_cast, seval, *]))
    | (intro hc)
    | fail)
  exact ⟨_, _, Weak.refl _ _, n, rfl, hn, rfl⟩
theorem err_g (l : List Int) (e : Int) (m : Nat) (H : Heap) (hm : H m = some (rdE l e)) :
    ACall Try.prog 46 [.p m 2 0 0] H fun r H' => r = .c (.int .i64 e) ∧ H' = H := by
  have hpt := Try.underlying56
  simp only [rdE] at hm
  refine ACall_of' Try.func46 rfl (Ent_of Try.func46 (by kernel_rfl) rfl) (by simp [Try.ntmps46]) ?_; simp only [Try.ntmps46, Try.results46]
  repeat' (first
    | refine AW_seq_kn fun K hK => ?_
    | refine AW_block ?_
    | (refine does_ptrnil rfl rfl rfl hpt ?_; (try simp only [push_cast, seval, *]))
    | ((first
      | refine AW_region E0 ?_ | refine AW_ret ?_ | refine AW_exit ?_ | refine AW_skip ?_ | unfold retQ); try simp only [push_cast, seval, *])
    | (apply AW_cond; (case hc => (simp only [push_cast, seval]; rfl)); all_goals (intro hc; first | (exfalso; simp only [push_cast, seval, *] at hc; done) | (exact absurd hc (by decide)) | ((try first | rw [Bool.not_true] at hc | rw [Bool.not_false] at hc); first | (with_reducible replace hc := tTT hc); clear hc | (with_reducible replace hc := tFF hc); clear hc | (have hp := hc; try simp only [decide_eq_true_eq, decide_eq_false_iff_not, bA, bB, bC, bD, bE, bF, bG, bH] at hp))))
    | (refine Kn.go hK ?_; clear hK K)
    | refine Kn.go (by assumption) ?_
    | (intro n hn; (try simp only [upd_none2, join_none_iff, ite_none, ne_eq] at hn); (try simp only [push_cast, seval, *]))
    | (intro hc)
    | fail)
  exact ⟨_, _, Weak.refl _ _, rfl, rfl⟩
theorem rest_g (l : List Int) (hl : l.length ≤ 900000) (e : Int) (m : Nat) (H : Heap) (hm : H m = some (rdE l e)) :
    ACall Try.prog 48 [.p m 2 0 0] H fun r H' => r = .l 1 (l.map by1) ∧ H' = H := by
  have hpt := Try.underlying56
  have hcl := bclone_p l (by omega)
  simp only [rdE] at hm
  refine ACall_of' Try.func48 rfl (Ent_of Try.func48 (by kernel_rfl) rfl) (by simp [Try.ntmps48]) ?_; simp only [Try.ntmps48, Try.results48]
  repeat' (first
    | refine AW_seq_kn fun K hK => ?_
    | refine AW_block ?_
    | (refine does_ptrnil rfl rfl rfl hpt ?_; (try simp only [push_cast, seval, *]))
    | (refine does_call rfl rfl ?_; simp only [push_cast, seval, *]; refine ACall.monoP (hcl _) ?_; (try simp only [push_cast, seval, *]))
    | ((first
      | refine AW_region E0 ?_ | refine AW_ret ?_ | refine AW_exit ?_ | refine AW_skip ?_ | unfold retQ); try simp only [push_cast, seval, *])
    | (apply AW_cond; (case hc => (simp only [push_cast, seval]; rfl)); all_goals (intro hc; first | (exfalso; simp only [push_cast, seval, *] at hc; done) | (exact absurd hc (by decide)) | ((try first | rw [Bool.not_true] at hc | rw [Bool.not_false] at hc); first | (with_reducible replace hc := tTT hc); clear hc | (with_reducible replace hc := tFF hc); clear hc | (have hp := hc; try simp only [decide_eq_true_eq, decide_eq_false_iff_not, bA, bB, bC, bD, bE, bF, bG, bH] at hp))))
    | (refine Kn.go hK ?_; clear hK K)
    | refine Kn.go (by assumption) ?_
    | (intro n hn; (try simp only [upd_none2, join_none_iff, ite_none, ne_eq] at hn); (try simp only [push_cast, seval, *]))
    | (intro hc)
    | fail)
  exact ⟨_, _, Weak.refl _ _, rfl, rfl⟩
theorem left_g (l : List Int) (hl : l.length ≤ 900000) (e : Int) (m : Nat) (H : Heap) (hm : H m = some (rdE l e)) :
    ACall Try.prog 33 [.p m 2 0 0] H fun r H' => r = .c (.int .i64 (l.length : Int)) ∧ H' = H := by
  have hr := rest_g l hl e m H hm
  clear hm
  refine ACall_of' Try.func33 rfl (Ent_of Try.func33 (by kernel_rfl) rfl) (by simp [Try.ntmps33]) ?_; simp only [Try.ntmps33, Try.results33]
  repeat' (first
    | refine AW_seq_kn fun K hK => ?_
    | refine AW_block ?_
    | (refine does_call rfl rfl ?_; simp only [push_cast, seval, *]; refine ACall.mono hr ?_; (rintro _ _ ⟨rfl, e2⟩; have e3 := e2.symm; clear e2; subst e3); (try simp only [push_cast, seval, *]))
    | ((first
      | refine AW_region E0 ?_ | refine AW_ret ?_ | refine AW_exit ?_ | refine AW_skip ?_ | unfold retQ); try simp only [push_cast, seval, *])
    | (apply AW_cond; (case hc => (simp only [push_cast, seval]; rfl)); all_goals (intro hc; first | (exfalso; simp only [push_cast, seval, *] at hc; done) | (exact absurd hc (by decide)) | ((try first | rw [Bool.not_true] at hc | rw [Bool.not_false] at hc); first | (with_reducible replace hc := tTT hc); clear hc | (with_reducible replace hc := tFF hc); clear hc | (have hp := hc; try simp only [decide_eq_true_eq, decide_eq_false_iff_not, bA, bB, bC, bD, bE, bF, bG, bH] at hp))))
    | (refine Kn.go hK ?_; clear hK K)
    | refine Kn.go (by assumption) ?_
    | (intro n hn; (try simp only [upd_none2, join_none_iff, ite_none, ne_eq] at hn); (try simp only [push_cast, seval, *]))
    | (intro hc)
    | fail)
  exact ⟨_, _, Weak.refl _ _, rfl, rfl⟩
end Go.Proofs.Ytfdedgeljijfdaa
