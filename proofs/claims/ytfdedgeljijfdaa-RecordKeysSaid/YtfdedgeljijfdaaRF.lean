/- Walks: elements that are read. -/
import Derived.Test.YtfdedgeljijfdaaRE
namespace Go.Proofs.Ytfdedgeljijfdaa
open Go.RowKit
open Nat renaming reduceEqDiff → nA, reduceLT → nB, reduceLeDiff → nC, reduceAdd → nD, reduceMul → nE, reduceSub → nF, reduceBEq → nG
open Int renaming reduceToNat → iA, reduceLT → iB, reduceLE → iC, reduceEq → iD
open Bool renaming and_eq_true → bA, or_eq_true → bB, or_eq_false_iff → bC, and_eq_false_iff → bD, not_eq_true' → bE, not_eq_false' → bF, not_true → bG, not_false → bH
set_option linter.all false
set_option maxHeartbeats 4000000
attribute [local irreducible] AW Does ACall tE tS tB tZ

theorem upd_idem2 (H : Heap) (n : Nat) (a b : Blk) : upd (upd H n a) n b = upd H n b := by
  funext z
  by_cases h : z = n
  · subst h; rw [upd_same, upd_same]
  · rw [upd_ne h, upd_ne h, upd_ne h]
abbrev elB (c : List AV) : Blk := .r 37 5 1 [c]
theorem end_g (q : Nat) (G : Heap) :
    ACall Try.prog 32 [.p q 2 0 0] G fun r H' => r = .g (El.av ⟨0, 0, 0, 0, 0⟩) ∧ H' = G := by
  refine ACall_of' Try.func32 rfl (Ent_of Try.func32 (by kernel_rfl) rfl) (by simp [Try.ntmps32]) ?_; simp only [Try.ntmps32, Try.results32]
  repeat' (first
    | refine AW_seq_kn fun K hK => ?_
    | refine AW_block ?_
    | ((first
      | refine AW_region E0 ?_ | refine AW_ret ?_ | refine AW_exit ?_ | refine AW_skip ?_ | unfold retQ); try simp only [push_cast, seval, *])
    | (apply AW_cond; (case hc => (simp only [push_cast, seval]; rfl)); all_goals (intro hc; first | (exfalso; simp only [push_cast, seval, *] at hc; done) | (exact absurd hc (by decide)) | ((try first | rw [Bool.not_true] at hc | rw [Bool.not_false] at hc); first | (with_reducible replace hc := tTT hc); clear hc | (with_reducible replace hc := tFF hc); clear hc | (have hp := hc; try simp only [decide_eq_true_eq, decide_eq_false_iff_not, bA, bB, bC, bD, bE, bF, bG, bH] at hp))))
    | (refine Kn.go hK ?_; clear hK K)
    | refine Kn.go (by assumption) ?_
    | (intro n hn; (try simp only [upd_none2, join_none_iff, ite_none, ne_eq] at hn); (try simp only [push_cast, seval, *]))
    | (intro hc)
    | fail)
  exact ⟨_, _, Weak.less (by (repeat' (first | exact Heap.le_refl _ | refine hle_upd2 ?_ _ _ | (refine Heap.le_new ?_ ?_; rotate_left 1; focus (first | assumption | (simp only [upd_none2, upd_get, ne_eq, push_cast, seval, *]; done) | (simp [upd_get, *]; done)))))), rfl, rfl⟩
theorem st_none {H : Heap} {m q n : Nat} {l : List Int} {e w : Int} (h : st H m q l e w n = none) : n ≠ m ∧ n ≠ q := by
  unfold st at h
  have h2 : n ≠ q := by rintro rfl; rw [upd_same] at h; cases h
  rw [upd_ne h2] at h
  exact ⟨(by rintro rfl; rw [upd_same] at h; cases h), h2⟩
theorem barrier_g (l : List Int) (ho : octs l) (e w : Int) (hll : l.length ≤ 1000000) (m q : Nat) (hmq : m ≠ q) (H : Heap) :
    ACall Try.prog 31 [.p q 2 0 0] (st H m q l e w) fun r H' => r = .g (El.av ⟨0, 0, 0, 0, gvX 8 l e⟩) ∧ H' = st H m q (gvL 8 l e) (gvE 8 l e) (needW w (gvE 8 l e) (numOk (gvX 8 l e))) := by
  have hQ : ∀ H l e w, st H m q l e w q = some (.r 59 2 1 [[.p m 2 0 0, .c (.int .i64 w)]]) := fun H l e w => st_q H m q l e w
  have hu := fun H => u64_g l ho e hll m (st H m q l e w) (st_m hmq l e w)
  simp only [st_um hmq] at hu
  have hne := fun H ok => need_g (gvL 8 l e) (gvE 8 l e) w ok m q (st H m q (gvL 8 l e) (gvE 8 l e) w) (st_m hmq _ _ _) (st_q _ _ _ _ _ _)
  simp only [st_uq] at hne
  generalize gvX 8 l e = X at *
  generalize gvL 8 l e = L2 at *
  generalize gvE 8 l e = E2 at *
  replace hu := Lib.hid hu
  replace hne := Lib.hid hne
  clear ho
  refine ACall_of' Try.func31 rfl (Ent_of Try.func31 (by kernel_rfl) rfl) (by simp [Try.ntmps31]) ?_; simp only [Try.ntmps31, Try.results31]
  repeat' (first
    | refine AW_seq_kn fun K hK => ?_
    | refine AW_block ?_
    | (intro n hn; obtain ⟨h1, h2⟩ := st_none hn; have hN : ∀ H l e w, st H m q l e w n = H n := (fun H l e w => st_n h1 h2 l e w); rw [st_un h1 h2]; (simp only [hN] at hn); (try simp only [push_cast, seval, *]))
    | (refine does_call rfl rfl ?_; simp only [push_cast, seval, *]; refine ACall.monoP (number1_p _ _) ?_; (try simp only [push_cast, seval, *]))
    | ((first
      | refine AW_region E0 ?_ | refine AW_ret ?_ | refine AW_exit ?_ | refine AW_skip ?_ | unfold retQ); try simp only [push_cast, seval, *])
    | (apply AW_cond; (case hc => (simp only [push_cast, seval]; rfl)); all_goals (intro hc; first | (exfalso; simp only [push_cast, seval, *] at hc; done) | (exact absurd hc (by decide)) | ((try first | rw [Bool.not_true] at hc | rw [Bool.not_false] at hc); first | (with_reducible replace hc := tTT hc); clear hc | (with_reducible replace hc := tFF hc); clear hc | (have hp := hc; try simp only [decide_eq_true_eq, decide_eq_false_iff_not, bA, bB, bC, bD, bE, bF, bG, bH] at hp))))
    | (refine Kn.go hK ?_; clear hK K)
    | refine Kn.go (by assumption) ?_
    | (intro n hn; (try simp only [upd_none2, join_none_iff, ite_none, ne_eq] at hn); (try simp only [push_cast, seval, *]))
    | (intro hc)
    | fail)
  refine does_call rfl rfl ?_
  simp only [push_cast, seval, *]
  refine ACall.mono (unhid hu _) ?_
  (rintro _ _ ⟨rfl, e2⟩; have e3 := e2.symm; clear e2; subst e3)
  (try simp only [push_cast, seval, *])
  repeat' (first
    | refine AW_seq_kn fun K hK => ?_
    | refine AW_block ?_
    | (refine does_call rfl rfl ?_; simp only [push_cast, seval, *]; refine ACall.monoP (number1_p _ _) ?_; (try simp only [push_cast, seval, *]))
    | ((first
      | refine AW_region E0 ?_ | refine AW_ret ?_ | refine AW_exit ?_ | refine AW_skip ?_ | unfold retQ); try simp only [push_cast, seval, *])
    | (apply AW_cond; (case hc => (simp only [push_cast, seval]; rfl)); all_goals (intro hc; first | (exfalso; simp only [push_cast, seval, *] at hc; done) | (exact absurd hc (by decide)) | ((try first | rw [Bool.not_true] at hc | rw [Bool.not_false] at hc); first | (with_reducible replace hc := tTT hc); clear hc | (with_reducible replace hc := tFF hc); clear hc | (have hp := hc; try simp only [decide_eq_true_eq, decide_eq_false_iff_not, bA, bB, bC, bD, bE, bF, bG, bH] at hp))))
    | (refine Kn.go hK ?_; clear hK K)
    | refine Kn.go (by assumption) ?_
    | (intro n hn; (try simp only [upd_none2, join_none_iff, ite_none, ne_eq] at hn); (try simp only [push_cast, seval, *]))
    | (intro hc)
    | fail)
  rw [st_un h1 h2, upd_idem2]
  refine does_call rfl rfl ?_
  simp only [push_cast, seval, *]
  refine ACall.mono (unhid hne _ _) ?_
  rintro _ _ rfl
  (try simp only [push_cast, seval, *])
  repeat' (first
    | refine AW_seq_kn fun K hK => ?_
    | refine AW_block ?_
    | (refine does_call rfl rfl ?_; simp only [push_cast, seval, *]; refine ACall.monoP (number1_p _ _) ?_; (try simp only [push_cast, seval, *]))
    | ((first
      | refine AW_region E0 ?_ | refine AW_ret ?_ | refine AW_exit ?_ | refine AW_skip ?_ | unfold retQ); try simp only [push_cast, seval, *])
    | (apply AW_cond; (case hc => (simp only [push_cast, seval]; rfl)); all_goals (intro hc; first | (exfalso; simp only [push_cast, seval, *] at hc; done) | (exact absurd hc (by decide)) | ((try first | rw [Bool.not_true] at hc | rw [Bool.not_false] at hc); first | (with_reducible replace hc := tTT hc); clear hc | (with_reducible replace hc := tFF hc); clear hc | (have hp := hc; try simp only [decide_eq_true_eq, decide_eq_false_iff_not, bA, bB, bC, bD, bE, bF, bG, bH] at hp))))
    | (refine Kn.go hK ?_; clear hK K)
    | refine Kn.go (by assumption) ?_
    | (intro n hn; (try simp only [upd_none2, join_none_iff, ite_none, ne_eq] at hn); (try simp only [push_cast, seval, *]))
    | (intro hc)
    | fail)
  rw [st_un h1 h2, upd_idem2]
  exact ⟨_, _, Weak.less (st_le (Heap.le_new (Heap.le_refl _) hn) _ _ _ _ _), rfl, rfl⟩
def rcS (l : List Int) (e w : Int) : Int × Int × Int × List Int × Int × Int :=
  let s := gvX 1 l e
  let l1 := gvL 1 l e
  let e1 := gvE 1 l e
  let w1 := needW w e1 (decide (s < 8))
  let k := gvX 1 l1 e1
  let l2 := gvL 1 l1 e1
  let e2 := gvE 1 l1 e1
  let w2 := needW w1 e2 (decide (k < 32))
  (s, k, IntKind.i64.wrap (gvX 8 l2 e2), gvL 8 l2 e2, gvE 8 l2 e2, w2)
theorem record_g (l : List Int) (ho : octs l) (e w : Int) (hll : l.length ≤ 1000000) (m q : Nat) (hmq : m ≠ q) (H : Heap) :
    ACall Try.prog 30 [.p q 2 0 0] (st H m q l e w) fun r H' => r = .g (El.av ⟨0, (rcS l e w).1, (rcS l e w).2.1, (rcS l e w).2.2.1, 0⟩) ∧ H' = st H m q (rcS l e w).2.2.2.1 (rcS l e w).2.2.2.2.1 (rcS l e w).2.2.2.2.2 := by
  have hQ : ∀ H l e w, st H m q l e w q = some (.r 59 2 1 [[.p m 2 0 0, .c (.int .i64 w)]]) := fun H l e w => st_q H m q l e w
  have hb1 := gvX1_bd ho e
  have hs1 : IntKind.i64.wrap (gvX 1 l e) = gvX 1 l e := wrap_i64 (by omega) (by omega)
  have hu1 := fun H => u8_g l ho e hll m (st H m q l e w) (st_m hmq l e w)
  have ho1 := gvL_octs (nb := 1) (e := e) ho
  have hl1 := Nat.le_trans (gvL_len 1 l e) hll
  simp only [rcS]
  generalize gvX 1 l e = X at *
  generalize gvL 1 l e = l1 at *
  generalize gvE 1 l e = e1 at *
  have hn1 := fun H ok => need_g l1 e1 w ok m q (st H m q l1 e1 w) (st_m hmq _ _ _) (st_q _ _ _ _ _ _)
  have hb2 := gvX1_bd ho1 e1
  have hs2 : IntKind.i64.wrap (gvX 1 l1 e1) = gvX 1 l1 e1 := wrap_i64 (by omega) (by omega)
  have hu2 := fun H w => u8_g l1 ho1 e1 hl1 m (st H m q l1 e1 w) (st_m hmq l1 e1 w)
  have ho2 := gvL_octs (nb := 1) (e := e1) ho1
  have hl2 := Nat.le_trans (gvL_len 1 l1 e1) hl1
  generalize gvX 1 l1 e1 = Y at *
  generalize gvL 1 l1 e1 = l2 at *
  generalize gvE 1 l1 e1 = e2 at *
  have hn2 := fun H w ok => need_g l2 e2 w ok m q (st H m q l2 e2 w) (st_m hmq _ _ _) (st_q _ _ _ _ _ _)
  have hu3 := fun H w => u64_g l2 ho2 e2 hl2 m (st H m q l2 e2 w) (st_m hmq l2 e2 w)
  generalize gvX 8 l2 e2 = Z at *
  generalize gvL 8 l2 e2 = l3 at *
  generalize gvE 8 l2 e2 = e3 at *
  simp only [st_um hmq] at hu1 hu2 hu3
  simp only [st_uq] at hn1 hn2
  replace hu1 := Lib.hid hu1
  replace hu2 := Lib.hid hu2
  replace hu3 := Lib.hid hu3
  replace hn1 := Lib.hid hn1
  replace hn2 := Lib.hid hn2
  clear ho ho1 ho2 hll hl1 hl2 hb1 hb2
  generalize hd1 : needW w e1 (decide (X < 8)) = w1 at *
  generalize hd2 : needW w1 e2 (decide (Y < 32)) = w2 at *
  replace hd1 := Lib.hid hd1
  replace hd2 := Lib.hid hd2
  refine ACall_of' Try.func30 rfl (Ent_of Try.func30 (by kernel_rfl) rfl) (by simp [Try.ntmps30]) ?_; simp only [Try.ntmps30, Try.results30]
  repeat' (first
    | refine AW_seq_kn fun K hK => ?_
    | refine AW_block ?_
    | (intro n hn; obtain ⟨h1, h2⟩ := st_none hn; have hN : ∀ H l e w, st H m q l e w n = H n := (fun H l e w => st_n h1 h2 l e w); rw [st_un h1 h2]; (simp only [hN] at hn); (try simp only [push_cast, seval, *]))
    | ((first
      | refine AW_region E0 ?_ | refine AW_ret ?_ | refine AW_exit ?_ | refine AW_skip ?_ | unfold retQ); try simp only [push_cast, seval, *])
    | (apply AW_cond; (case hc => (simp only [push_cast, seval]; rfl)); all_goals (intro hc; first | (exfalso; simp only [push_cast, seval, *] at hc; done) | (exact absurd hc (by decide)) | ((try first | rw [Bool.not_true] at hc | rw [Bool.not_false] at hc); first | (with_reducible replace hc := tTT hc); clear hc | (with_reducible replace hc := tFF hc); clear hc | (have hp := hc; try simp only [decide_eq_true_eq, decide_eq_false_iff_not, bA, bB, bC, bD, bE, bF, bG, bH] at hp))))
    | (refine Kn.go hK ?_; clear hK K)
    | refine Kn.go (by assumption) ?_
    | (intro n hn; (try simp only [upd_none2, join_none_iff, ite_none, ne_eq] at hn); (try simp only [push_cast, seval, *]))
    | (intro hc)
    | fail)
  refine does_call rfl rfl ?_
  simp only [push_cast, seval, *]
  refine ACall.mono (unhid hu1 _) ?_
  (rintro _ _ ⟨rfl, e2⟩; have e3 := e2.symm; clear e2; subst e3)
  (try simp only [push_cast, seval, *])
  repeat' (first
    | refine AW_seq_kn fun K hK => ?_
    | refine AW_block ?_
    | ((first
      | refine AW_region E0 ?_ | refine AW_ret ?_ | refine AW_exit ?_ | refine AW_skip ?_ | unfold retQ); try simp only [push_cast, seval, *])
    | (apply AW_cond; (case hc => (simp only [push_cast, seval]; rfl)); all_goals (intro hc; first | (exfalso; simp only [push_cast, seval, *] at hc; done) | (exact absurd hc (by decide)) | ((try first | rw [Bool.not_true] at hc | rw [Bool.not_false] at hc); first | (with_reducible replace hc := tTT hc); clear hc | (with_reducible replace hc := tFF hc); clear hc | (have hp := hc; try simp only [decide_eq_true_eq, decide_eq_false_iff_not, bA, bB, bC, bD, bE, bF, bG, bH] at hp))))
    | (refine Kn.go hK ?_; clear hK K)
    | refine Kn.go (by assumption) ?_
    | (intro n hn; (try simp only [upd_none2, join_none_iff, ite_none, ne_eq] at hn); (try simp only [push_cast, seval, *]))
    | (intro hc)
    | fail)
  rw [st_un h1 h2, upd_idem2]
  refine does_call rfl rfl ?_
  simp only [push_cast, seval, *]
  refine ACall.mono (unhid hn1 _ _) ?_
  rintro _ _ rfl
  simp only [unhid hd1]
  (try simp only [push_cast, seval, *])
  repeat' (first
    | refine AW_seq_kn fun K hK => ?_
    | refine AW_block ?_
    | ((first
      | refine AW_region E0 ?_ | refine AW_ret ?_ | refine AW_exit ?_ | refine AW_skip ?_ | unfold retQ); try simp only [push_cast, seval, *])
    | (apply AW_cond; (case hc => (simp only [push_cast, seval]; rfl)); all_goals (intro hc; first | (exfalso; simp only [push_cast, seval, *] at hc; done) | (exact absurd hc (by decide)) | ((try first | rw [Bool.not_true] at hc | rw [Bool.not_false] at hc); first | (with_reducible replace hc := tTT hc); clear hc | (with_reducible replace hc := tFF hc); clear hc | (have hp := hc; try simp only [decide_eq_true_eq, decide_eq_false_iff_not, bA, bB, bC, bD, bE, bF, bG, bH] at hp))))
    | (refine Kn.go hK ?_; clear hK K)
    | refine Kn.go (by assumption) ?_
    | (intro n hn; (try simp only [upd_none2, join_none_iff, ite_none, ne_eq] at hn); (try simp only [push_cast, seval, *]))
    | (intro hc)
    | fail)
  refine does_call rfl rfl ?_
  simp only [push_cast, seval, *]
  refine ACall.mono (unhid hu2 _ _) ?_
  (rintro _ _ ⟨rfl, e2⟩; have e3 := e2.symm; clear e2; subst e3)
  (try simp only [push_cast, seval, *])
  repeat' (first
    | refine AW_seq_kn fun K hK => ?_
    | refine AW_block ?_
    | ((first
      | refine AW_region E0 ?_ | refine AW_ret ?_ | refine AW_exit ?_ | refine AW_skip ?_ | unfold retQ); try simp only [push_cast, seval, *])
    | (apply AW_cond; (case hc => (simp only [push_cast, seval]; rfl)); all_goals (intro hc; first | (exfalso; simp only [push_cast, seval, *] at hc; done) | (exact absurd hc (by decide)) | ((try first | rw [Bool.not_true] at hc | rw [Bool.not_false] at hc); first | (with_reducible replace hc := tTT hc); clear hc | (with_reducible replace hc := tFF hc); clear hc | (have hp := hc; try simp only [decide_eq_true_eq, decide_eq_false_iff_not, bA, bB, bC, bD, bE, bF, bG, bH] at hp))))
    | (refine Kn.go hK ?_; clear hK K)
    | refine Kn.go (by assumption) ?_
    | (intro n hn; (try simp only [upd_none2, join_none_iff, ite_none, ne_eq] at hn); (try simp only [push_cast, seval, *]))
    | (intro hc)
    | fail)
  rw [st_un h1 h2, upd_idem2]
  refine does_call rfl rfl ?_
  simp only [push_cast, seval, *]
  refine ACall.mono (unhid hn2 _ _ _) ?_
  rintro _ _ rfl
  simp only [unhid hd2]
  (try simp only [push_cast, seval, *])
  repeat' (first
    | refine AW_seq_kn fun K hK => ?_
    | refine AW_block ?_
    | ((first
      | refine AW_region E0 ?_ | refine AW_ret ?_ | refine AW_exit ?_ | refine AW_skip ?_ | unfold retQ); try simp only [push_cast, seval, *])
    | (apply AW_cond; (case hc => (simp only [push_cast, seval]; rfl)); all_goals (intro hc; first | (exfalso; simp only [push_cast, seval, *] at hc; done) | (exact absurd hc (by decide)) | ((try first | rw [Bool.not_true] at hc | rw [Bool.not_false] at hc); first | (with_reducible replace hc := tTT hc); clear hc | (with_reducible replace hc := tFF hc); clear hc | (have hp := hc; try simp only [decide_eq_true_eq, decide_eq_false_iff_not, bA, bB, bC, bD, bE, bF, bG, bH] at hp))))
    | (refine Kn.go hK ?_; clear hK K)
    | refine Kn.go (by assumption) ?_
    | (intro n hn; (try simp only [upd_none2, join_none_iff, ite_none, ne_eq] at hn); (try simp only [push_cast, seval, *]))
    | (intro hc)
    | fail)
  refine does_call rfl rfl ?_
  simp only [push_cast, seval, *]
  refine ACall.mono (unhid hu3 _ _) ?_
  (rintro _ _ ⟨rfl, e2⟩; have e3 := e2.symm; clear e2; subst e3)
  (try simp only [push_cast, seval, *])
  repeat' (first
    | refine AW_seq_kn fun K hK => ?_
    | refine AW_block ?_
    | ((first
      | refine AW_region E0 ?_ | refine AW_ret ?_ | refine AW_exit ?_ | refine AW_skip ?_ | unfold retQ); try simp only [push_cast, seval, *])
    | (apply AW_cond; (case hc => (simp only [push_cast, seval]; rfl)); all_goals (intro hc; first | (exfalso; simp only [push_cast, seval, *] at hc; done) | (exact absurd hc (by decide)) | ((try first | rw [Bool.not_true] at hc | rw [Bool.not_false] at hc); first | (with_reducible replace hc := tTT hc); clear hc | (with_reducible replace hc := tFF hc); clear hc | (have hp := hc; try simp only [decide_eq_true_eq, decide_eq_false_iff_not, bA, bB, bC, bD, bE, bF, bG, bH] at hp))))
    | (refine Kn.go hK ?_; clear hK K)
    | refine Kn.go (by assumption) ?_
    | (intro n hn; (try simp only [upd_none2, join_none_iff, ite_none, ne_eq] at hn); (try simp only [push_cast, seval, *]))
    | (intro hc)
    | fail)
  rw [st_un h1 h2, upd_idem2]
  exact ⟨_, _, Weak.less (st_le (Heap.le_new (Heap.le_refl _) hn) _ _ _ _ _), rfl, rfl⟩
end Go.Proofs.Ytfdedgeljijfdaa
