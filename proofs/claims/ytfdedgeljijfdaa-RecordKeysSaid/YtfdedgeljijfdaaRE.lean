/- Walks: a reader of elements. -/
import Derived.Test.YtfdedgeljijfdaaRA
import Derived.Test.YtfdedgeljijfdaaB
namespace Go.Proofs.Ytfdedgeljijfdaa
open Go.RowKit
open Nat renaming reduceEqDiff → nA, reduceLT → nB, reduceLeDiff → nC, reduceAdd → nD, reduceMul → nE, reduceSub → nF, reduceBEq → nG
open Int renaming reduceToNat → iA, reduceLT → iB, reduceLE → iC, reduceEq → iD
open Bool renaming and_eq_true → bA, or_eq_true → bB, or_eq_false_iff → bC, and_eq_false_iff → bD, not_eq_true' → bE, not_eq_false' → bF, not_true → bG, not_false → bH
set_option linter.all false
set_option maxHeartbeats 4000000
attribute [local irreducible] AW Does ACall tE tS tB tZ

abbrev rwB (m : Nat) (w : Int) : Blk := .r 59 2 1 [[.p m 2 0 0, .c (.int .i64 w)]]
def needW (w e : Int) (ok : Bool) : Int := if w = 0 then (if e = 0 then (if ok = true then 0 else 151) else 7) else w
theorem need_g (l : List Int) (e w : Int) (ok : Bool) (m q : Nat) (H : Heap) (hm : H m = some (rdE l e)) (hq : H q = some (rwB m w)) :
    ACall Try.prog 29 [.p q 2 0 0, .c (.bool ok)] H fun _ H' => H' = upd H q (rwB m (needW w e ok)) := by
  have her := err_g l e m H hm
  by_cases hw : w = 0
  · by_cases he : e = 0
    · cases ok
      · have hn : needW w e false = 151 := by simp [needW, hw, he]
        rw [hn]
        simp only [rwB] at hq ⊢
        clear hm hn
        subst hw he
        refine ACall_of' Try.func29 rfl (Ent_of Try.func29 (by kernel_rfl) rfl) (by simp [Try.ntmps29]) ?_; simp only [Try.ntmps29, Try.results29]
        repeat' (first
    | refine AW_seq_kn fun K hK => ?_
    | refine AW_block ?_
    | (refine does_call rfl rfl ?_; simp only [push_cast, seval, *]; refine ACall.mono her ?_; (rintro _ _ ⟨rfl, e2⟩; have e3 := e2.symm; clear e2; subst e3); (try simp only [push_cast, seval, *]))
    | ((first
      | refine AW_region E0 ?_ | refine AW_ret ?_ | refine AW_exit ?_ | refine AW_skip ?_ | unfold retQ); try simp only [push_cast, seval, *])
    | (apply AW_cond; (case hc => (simp only [push_cast, seval]; rfl)); all_goals (intro hc; first | (exfalso; simp only [push_cast, seval, *] at hc; done) | (exact absurd hc (by decide)) | ((try first | rw [Bool.not_true] at hc | rw [Bool.not_false] at hc); first | (with_reducible replace hc := tTT hc); clear hc | (with_reducible replace hc := tFF hc); clear hc | (have hp := hc; try simp only [decide_eq_true_eq, decide_eq_false_iff_not, bA, bB, bC, bD, bE, bF, bG, bH] at hp))))
    | (refine Kn.go hK ?_; clear hK K)
    | refine Kn.go (by assumption) ?_
    | (intro n hn; (try simp only [upd_none2, join_none_iff, ite_none, ne_eq] at hn); (try simp only [push_cast, seval, *]))
    | (intro hc)
    | fail)
        exact ⟨_, _, Weak.refl _ _, rfl⟩
      · have hn : needW w e true = w := by simp [needW, hw, he]
        rw [hn, upd_self hq]
        simp only [rwB] at hq ⊢
        clear hm hn
        subst hw he
        refine ACall_of' Try.func29 rfl (Ent_of Try.func29 (by kernel_rfl) rfl) (by simp [Try.ntmps29]) ?_; simp only [Try.ntmps29, Try.results29]
        repeat' (first
    | refine AW_seq_kn fun K hK => ?_
    | refine AW_block ?_
    | (refine does_call rfl rfl ?_; simp only [push_cast, seval, *]; refine ACall.mono her ?_; (rintro _ _ ⟨rfl, e2⟩; have e3 := e2.symm; clear e2; subst e3); (try simp only [push_cast, seval, *]))
    | ((first
      | refine AW_region E0 ?_ | refine AW_ret ?_ | refine AW_exit ?_ | refine AW_skip ?_ | unfold retQ); try simp only [push_cast, seval, *])
    | (apply AW_cond; (case hc => (simp only [push_cast, seval]; rfl)); all_goals (intro hc; first | (exfalso; simp only [push_cast, seval, *] at hc; done) | (exact absurd hc (by decide)) | ((try first | rw [Bool.not_true] at hc | rw [Bool.not_false] at hc); first | (with_reducible replace hc := tTT hc); clear hc | (with_reducible replace hc := tFF hc); clear hc | (have hp := hc; try simp only [decide_eq_true_eq, decide_eq_false_iff_not, bA, bB, bC, bD, bE, bF, bG, bH] at hp))))
    | (refine Kn.go hK ?_; clear hK K)
    | refine Kn.go (by assumption) ?_
    | (intro n hn; (try simp only [upd_none2, join_none_iff, ite_none, ne_eq] at hn); (try simp only [push_cast, seval, *]))
    | (intro hc)
    | fail)
        exact ⟨_, _, Weak.refl _ _, rfl⟩
    · have hn : needW w e ok = 7 := by simp [needW, hw, he]
      rw [hn]
      simp only [rwB] at hq ⊢
      clear hm hn
      subst hw
      refine ACall_of' Try.func29 rfl (Ent_of Try.func29 (by kernel_rfl) rfl) (by simp [Try.ntmps29]) ?_; simp only [Try.ntmps29, Try.results29]
      repeat' (first
    | refine AW_seq_kn fun K hK => ?_
    | refine AW_block ?_
    | (refine does_call rfl rfl ?_; simp only [push_cast, seval, *]; refine ACall.mono her ?_; (rintro _ _ ⟨rfl, e2⟩; have e3 := e2.symm; clear e2; subst e3); (try simp only [push_cast, seval, *]))
    | ((first
      | refine AW_region E0 ?_ | refine AW_ret ?_ | refine AW_exit ?_ | refine AW_skip ?_ | unfold retQ); try simp only [push_cast, seval, *])
    | (apply AW_cond; (case hc => (simp only [push_cast, seval]; rfl)); all_goals (intro hc; first | (exfalso; simp only [push_cast, seval, *] at hc; done) | (exact absurd hc (by decide)) | ((try first | rw [Bool.not_true] at hc | rw [Bool.not_false] at hc); first | (with_reducible replace hc := tTT hc); clear hc | (with_reducible replace hc := tFF hc); clear hc | (have hp := hc; try simp only [decide_eq_true_eq, decide_eq_false_iff_not, bA, bB, bC, bD, bE, bF, bG, bH] at hp))))
    | (refine Kn.go hK ?_; clear hK K)
    | refine Kn.go (by assumption) ?_
    | (intro n hn; (try simp only [upd_none2, join_none_iff, ite_none, ne_eq] at hn); (try simp only [push_cast, seval, *]))
    | (intro hc)
    | fail)
      exact ⟨_, _, Weak.refl _ _, rfl⟩
  · have hn : needW w e ok = w := by simp [needW, hw]
    rw [hn, upd_self hq]
    simp only [rwB] at hq ⊢
    clear hm hn
    refine ACall_of' Try.func29 rfl (Ent_of Try.func29 (by kernel_rfl) rfl) (by simp [Try.ntmps29]) ?_; simp only [Try.ntmps29, Try.results29]
    repeat' (first
    | refine AW_seq_kn fun K hK => ?_
    | refine AW_block ?_
    | (refine does_call rfl rfl ?_; simp only [push_cast, seval, *]; refine ACall.mono her ?_; (rintro _ _ ⟨rfl, e2⟩; have e3 := e2.symm; clear e2; subst e3); (try simp only [push_cast, seval, *]))
    | ((first
      | refine AW_region E0 ?_ | refine AW_ret ?_ | refine AW_exit ?_ | refine AW_skip ?_ | unfold retQ); try simp only [push_cast, seval, *])
    | (apply AW_cond; (case hc => (simp only [push_cast, seval]; rfl)); all_goals (intro hc; first | (exfalso; simp only [push_cast, seval, *] at hc; done) | (exact absurd hc (by decide)) | ((try first | rw [Bool.not_true] at hc | rw [Bool.not_false] at hc); first | (with_reducible replace hc := tTT hc); clear hc | (with_reducible replace hc := tFF hc); clear hc | (have hp := hc; try simp only [decide_eq_true_eq, decide_eq_false_iff_not, bA, bB, bC, bD, bE, bF, bG, bH] at hp))))
    | (refine Kn.go hK ?_; clear hK K)
    | refine Kn.go (by assumption) ?_
    | (intro n hn; (try simp only [upd_none2, join_none_iff, ite_none, ne_eq] at hn); (try simp only [push_cast, seval, *]))
    | (intro hc)
    | fail)
    exact ⟨_, _, Weak.refl _ _, rfl⟩
/-- what a reader's two blocks turn to -/
def st (H : Heap) (m q : Nat) (l : List Int) (e w : Int) : Heap := upd (upd H m (rdE l e)) q (rwB m w)
theorem st_m {H : Heap} {m q : Nat} (h : m ≠ q) (l : List Int) (e w : Int) : st H m q l e w m = some (rdE l e) := by unfold st; rw [upd_ne h, upd_same]
theorem st_q (H : Heap) (m q : Nat) (l : List Int) (e w : Int) : st H m q l e w q = some (rwB m w) := upd_same _ _ _
theorem st_n {H : Heap} {m q n : Nat} (h1 : n ≠ m) (h2 : n ≠ q) (l : List Int) (e w : Int) : st H m q l e w n = H n := by unfold st; rw [upd_ne h2, upd_ne h1]
theorem st_um {H : Heap} {m q : Nat} (h : m ≠ q) (l l2 : List Int) (e e2 w : Int) : upd (st H m q l e w) m (rdE l2 e2) = st H m q l2 e2 w := by
  funext z; unfold st
  by_cases h1 : z = m
  · subst h1; rw [upd_same, upd_ne h, upd_same]
  · rw [upd_ne h1]
    by_cases h2 : z = q
    · subst h2; rw [upd_same, upd_same]
    · rw [upd_ne h2, upd_ne h1, upd_ne h2, upd_ne h1]
theorem st_uq (H : Heap) (m q : Nat) (l : List Int) (e w w2 : Int) : upd (st H m q l e w) q (rwB m w2) = st H m q l e w2 := by
  funext z; unfold st
  by_cases h1 : z = q
  · subst h1; rw [upd_same, upd_same]
  · rw [upd_ne h1, upd_ne h1, upd_ne h1]
theorem st_un {H : Heap} {m q n : Nat} (h1 : n ≠ m) (h2 : n ≠ q) (l : List Int) (e w : Int) (b : Blk) : upd (st H m q l e w) n b = st (upd H n b) m q l e w := by
  funext z; unfold st
  by_cases e1 : z = n
  · subst e1; rw [upd_same, upd_ne h2, upd_ne h1, upd_same]
  · rw [upd_ne e1]
    by_cases e2 : z = q
    · subst e2; rw [upd_same, upd_same]
    · rw [upd_ne e2, upd_ne e2]
      by_cases e3 : z = m
      · subst e3; rw [upd_same, upd_same]
      · rw [upd_ne e3, upd_ne e3, upd_ne e1]
theorem st_self {H : Heap} {m q : Nat} {l : List Int} {e w : Int} (hm : H m = some (rdE l e)) (hq : H q = some (rwB m w)) : st H m q l e w = H := by
  unfold st; rw [upd_self hm, upd_self hq]
theorem st_le {H G : Heap} (h : Heap.le H G) (m q : Nat) (l : List Int) (e w : Int) : Heap.le (st H m q l e w) (st G m q l e w) := hle_upd2 (hle_upd2 h _ _) _ _
theorem st_st {H : Heap} {m q : Nat} (l l2 : List Int) (e e2 w w2 : Int) (h : m ≠ q) : st (st H m q l e w) m q l2 e2 w2 = st H m q l2 e2 w2 := by
  rw [show st (st H m q l e w) m q l2 e2 w2 = upd (upd (st H m q l e w) m (rdE l2 e2)) q (rwB m w2) from rfl, st_um h, st_uq]
end Go.Proofs.Ytfdedgeljijfdaa
