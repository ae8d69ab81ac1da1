/- The same logs. -/
import Derived.Test.YtdeckjoeggmagaaC0
namespace Go.Proofs.Ytdeckjoeggmagaa
open Go.RowKit
open Nat renaming reduceEqDiff → nA, reduceLT → nB, reduceLeDiff → nC, reduceAdd → nD, reduceMul → nE, reduceSub → nF, reduceBEq → nG
open Int renaming reduceToNat → iA, reduceLT → iB, reduceLE → iC, reduceEq → iD
open Bool renaming and_eq_true → bA, or_eq_true → bB, or_eq_false_iff → bC, and_eq_false_iff → bD, not_eq_true' → bE, not_eq_false' → bF, not_true → bG, not_false → bH
set_option linter.all false
set_option maxHeartbeats 4000000
attribute [local irreducible] AW Does ACall tE tS tB tZ
set_option maxRecDepth 5000

theorem txSame_p (x y : Tx) (hx : x.rs.length ≤ maxLen) (hy : y.rs.length ≤ maxLen) : Pure Try.prog 94 [.g (Tx.av x), .g (Tx.av y)] (.c (.bool (decide (x = y)))) := by
  intro H
  have hq := eqRc_p x.rs y.rs hx hy
  obtain ⟨⟨s1, a1, m1⟩, t1, r1⟩ := x
  obtain ⟨⟨s2, a2, m2⟩, t2, r2⟩ := y
  simp only at hq
  simp only [Tx.av]
  by_cases h1 : (⟨s1, a1, m1⟩ : Nm) = ⟨s2, a2, m2⟩
  rotate_left
  · rw [decide_eq_false (fun e => h1 (congrArg Tx.nm e))]
    have hb : (decide (s1 = s2) && (decide (a1 = a2) && decide (m1 = m2))) = false := by
      simp only [Nm.mk.injEq] at h1
      rw [← Bool.not_eq_true]
      simp only [Bool.and_eq_true, decide_eq_true_eq]
      rintro ⟨rfl, rfl, rfl⟩
      exact h1 ⟨rfl, rfl, rfl⟩
    replace h1 := Lib.hid h1
    refine ACall_of' Try.func94 rfl (Ent_of Try.func94 (by kernel_rfl) rfl) (by simp [Try.ntmps94]) ?_; simp only [Try.ntmps94, Try.results94]
    repeat' (first
    | refine AW_seq_kn fun K hK => ?_
    | refine AW_block ?_
    | (refine does_call rfl rfl ?_; simp only [push_cast, seval, *]; refine ACall.monoP (eqRc_p _ _ (by assumption) (by assumption) _) ?_; (try simp only [push_cast, seval, *]))
    | ((first
      | refine AW_region E0 ?_ | refine AW_ret ?_ | refine AW_exit ?_ | refine AW_skip ?_ | unfold retQ); try simp only [push_cast, seval, *])
    | ((first | (apply AW_cond; (case hc => (simp only [push_cast, seval]; rfl))) | (apply ER_guard; (case hb => (simp only [push_cast, seval]; rfl)))); all_goals ((intro hc; first | (exfalso; simp only [push_cast, seval, *] at hc; done) | (exact absurd hc (by decide)) | ((try first | rw [Bool.not_true] at hc | rw [Bool.not_false] at hc); first | (with_reducible replace hc := tTT hc); clear hc | (with_reducible replace hc := tFF hc); clear hc | (have hp := hc; try simp only [decide_eq_true_eq, decide_eq_false_iff_not, bA, bB, bC, bD, bE, bF, bG, bH] at hp))) <;> try simp only [push_cast, seval, *]))
    | (refine Kn.go hK ?_; clear hK K)
    | refine Kn.go (by assumption) ?_
    | (intro n hn; (try simp only [upd_none2, join_none_iff, ite_none, ne_eq] at hn); (try simp only [push_cast, seval, *]))
    | (intro hc)
    | (apply ER_blk; (case hp => rfl); (case hb => (simp only [push_cast, seval]; rfl)); (case hd => (simp only [push_cast, seval]; done)); (case h => (intro hc; simp only [push_cast, seval, *]; rfl)); simp only [push_cast, seval, *])
    | fail)
    all_goals first
      | exact ⟨_, _, Weak.less (by (repeat' (first | exact Heap.le_refl _ | refine hle_upd2 ?_ _ _ | (refine Heap.le_new ?_ ?_; rotate_left 1; focus (first | assumption | (simp only [upd_none2, upd_get, ne_eq, push_cast, seval, *]; done) | (simp [upd_get, *]; done)))))), rfl, rfl⟩
      | (exfalso; simp_all; done)
  cases h1
  by_cases h2 : t1 = t2
  rotate_left
  · rw [decide_eq_false (fun e => h2 (congrArg Tx.st e))]
    refine ACall_of' Try.func94 rfl (Ent_of Try.func94 (by kernel_rfl) rfl) (by simp [Try.ntmps94]) ?_; simp only [Try.ntmps94, Try.results94]
    repeat' (first
    | refine AW_seq_kn fun K hK => ?_
    | refine AW_block ?_
    | (refine does_call rfl rfl ?_; simp only [push_cast, seval, *]; refine ACall.monoP (eqRc_p _ _ (by assumption) (by assumption) _) ?_; (try simp only [push_cast, seval, *]))
    | ((first
      | refine AW_region E0 ?_ | refine AW_ret ?_ | refine AW_exit ?_ | refine AW_skip ?_ | unfold retQ); try simp only [push_cast, seval, *])
    | ((first | (apply AW_cond; (case hc => (simp only [push_cast, seval]; rfl))) | (apply ER_guard; (case hb => (simp only [push_cast, seval]; rfl)))); all_goals ((intro hc; first | (exfalso; simp only [push_cast, seval, *] at hc; done) | (exact absurd hc (by decide)) | ((try first | rw [Bool.not_true] at hc | rw [Bool.not_false] at hc); first | (with_reducible replace hc := tTT hc); clear hc | (with_reducible replace hc := tFF hc); clear hc | (have hp := hc; try simp only [decide_eq_true_eq, decide_eq_false_iff_not, bA, bB, bC, bD, bE, bF, bG, bH] at hp))) <;> try simp only [push_cast, seval, *]))
    | (refine Kn.go hK ?_; clear hK K)
    | refine Kn.go (by assumption) ?_
    | (intro n hn; (try simp only [upd_none2, join_none_iff, ite_none, ne_eq] at hn); (try simp only [push_cast, seval, *]))
    | (intro hc)
    | (apply ER_blk; (case hp => rfl); (case hb => (simp only [push_cast, seval]; rfl)); (case hd => (simp only [push_cast, seval]; done)); (case h => (intro hc; simp only [push_cast, seval, *]; rfl)); simp only [push_cast, seval, *])
    | fail)
    exact ⟨_, _, Weak.less (by (repeat' (first | exact Heap.le_refl _ | refine hle_upd2 ?_ _ _ | (refine Heap.le_new ?_ ?_; rotate_left 1; focus (first | assumption | (simp only [upd_none2, upd_get, ne_eq, push_cast, seval, *]; done) | (simp [upd_get, *]; done)))))), rfl, rfl⟩
  subst h2
  have hD : decide ((⟨⟨s1, a1, m1⟩, t1, r1⟩ : Tx) = ⟨⟨s1, a1, m1⟩, t1, r2⟩) = decide (r1 = r2) := by rw [decide_eq_decide]; simp
  rw [hD]
  generalize decide (r1 = r2) = B at *
  clear hD
  refine ACall_of' Try.func94 rfl (Ent_of Try.func94 (by kernel_rfl) rfl) (by simp [Try.ntmps94]) ?_; simp only [Try.ntmps94, Try.results94]
  repeat' (first
    | refine AW_seq_kn fun K hK => ?_
    | refine AW_block ?_
    | (refine does_call rfl rfl ?_; simp only [push_cast, seval, *]; refine ACall.monoP (hq _) ?_; (try simp only [push_cast, seval, *]))
    | (refine does_call rfl rfl ?_; simp only [push_cast, seval, *]; refine ACall.monoP (eqRc_p _ _ (by assumption) (by assumption) _) ?_; (try simp only [push_cast, seval, *]))
    | ((first
      | refine AW_region E0 ?_ | refine AW_ret ?_ | refine AW_exit ?_ | refine AW_skip ?_ | unfold retQ); try simp only [push_cast, seval, *])
    | ((first | (apply AW_cond; (case hc => (simp only [push_cast, seval]; rfl))) | (apply ER_guard; (case hb => (simp only [push_cast, seval]; rfl)))); all_goals ((intro hc; first | (exfalso; simp only [push_cast, seval, *] at hc; done) | (exact absurd hc (by decide)) | ((try first | rw [Bool.not_true] at hc | rw [Bool.not_false] at hc); first | (with_reducible replace hc := tTT hc); clear hc | (with_reducible replace hc := tFF hc); clear hc | (have hp := hc; try simp only [decide_eq_true_eq, decide_eq_false_iff_not, bA, bB, bC, bD, bE, bF, bG, bH] at hp))) <;> try simp only [push_cast, seval, *]))
    | (refine Kn.go hK ?_; clear hK K)
    | refine Kn.go (by assumption) ?_
    | (intro n hn; (try simp only [upd_none2, join_none_iff, ite_none, ne_eq] at hn); (try simp only [push_cast, seval, *]))
    | (intro hc)
    | (apply ER_blk; (case hp => rfl); (case hb => (simp only [push_cast, seval]; rfl)); (case hd => (simp only [push_cast, seval]; done)); (case h => (intro hc; simp only [push_cast, seval, *]; rfl)); simp only [push_cast, seval, *])
    | fail)
  exact ⟨_, _, Weak.less (by (repeat' (first | exact Heap.le_refl _ | refine hle_upd2 ?_ _ _ | (refine Heap.le_new ?_ ?_; rotate_left 1; focus (first | assumption | (simp only [upd_none2, upd_get, ne_eq, push_cast, seval, *]; done) | (simp [upd_get, *]; done)))))), rfl, rfl⟩
theorem eqT_a (a b : List Tx) (ha : a.length ≤ maxLen) (hb : b.length ≤ maxLen) (gf : FuncId) (caps : List AV) (H0 : Heap)
    (hf : ∀ x ∈ a, ∀ y ∈ b, ∀ H, Heap.le H0 H → ACall Try.prog gf ([.g (Tx.av x), .g (Tx.av y)] ++ caps) H fun r H' => r = .c (.bool (decide (x = y))) ∧ H' = H) :
    ACall Try.prog 95 [.l 5 (a.map Tx.av), .l 5 (b.map Tx.av), .f (.func gf) [] caps] H0 fun r H' => r = .c (.bool (decide (a = b))) ∧ H' = H0 := by
  by_cases hl : a.length = b.length
  · have hlT : ((a.length : Int) = (b.length : Int)) = True := by simp [hl]
    replace hl := Lib.hid hl
    refine ACall_of' Try.func95 rfl (Ent_of Try.func95 (by kernel_rfl) rfl) (by simp [Try.ntmps95]) ?_; simp only [Try.ntmps95, Try.results95]
    repeat' (first
    | refine AW_seq_kn fun K hK => ?_
    | refine AW_block ?_
    | ((first
      | refine AW_region E0 ?_ | refine AW_ret ?_ | refine AW_exit ?_ | refine AW_skip ?_ | unfold retQ); try simp only [push_cast, seval, *])
    | (apply AW_cond; (case hc => (simp only [push_cast, seval]; rfl)); all_goals (intro hc; first | (exfalso; simp only [push_cast, seval, *] at hc; done) | (exact absurd hc (by decide)) | ((try first | rw [Bool.not_true] at hc | rw [Bool.not_false] at hc); first | (with_reducible replace hc := tTT hc); clear hc | (with_reducible replace hc := tFF hc); clear hc | (have hp := hc; try simp only [decide_eq_true_eq, decide_eq_false_iff_not, bA, bB, bC, bD, bE, bF, bG, bH] at hp))))
    | (refine Kn.go hK ?_; clear hK K)
    | refine Kn.go (by assumption) ?_
    | (intro n hn; (try simp only [upd_none2, join_none_iff, ite_none, ne_eq] at hn); (try simp only [push_cast, seval, *]))
    | (intro hc)
    | fail)
    refine AW_loopN a.length (fun k => EqI a b k) (fun k => [(1, .l 5 (b.map Tx.av)), (2, .f (.func gf) [] caps), (15, .l 5 (a.map Tx.av)), (16, ci a.length), (17, ci k)]) (fun _ => H0) (EqI.zero _ _) ?_ ?_ ?_ ?_
    · (first | trivial | (simp only [push_cast, seval, *]; done))
    · (first | trivial | ((simp only [push_cast, seval, *]); repeat' (first | rfl | exact Heap.le_refl _ | refine And.intro ?_ ?_)) | rfl | exact ⟨rfl, rfl⟩ | exact ⟨rfl, rfl, rfl⟩ | exact Heap.le_refl _)
    · intro k hk hinv
      have hl2 : a.length = b.length := hl
      have hkb : k < b.length := by omega
      clear hl2
      unfold maxLen at ha hb
      have hx := List.getElem?_eq_getElem (l := a) hk; generalize a[k] = x at hx; have hxm := List.mem_of_getElem? hx; have hkl : (k : Int) < a.length := (by omega); have hkw : IntKind.i64.wrap ((k : Int) + 1) = (k : Int) + 1 := wrap_i64 (by omega) (by omega)
      have hkbl : (k : Int) < b.length := by omega
      obtain ⟨y, hy⟩ : ∃ y, b[k]? = some y := ⟨_, List.getElem?_eq_getElem hkb⟩
      have htx : List.take 5 (Tx.av x) = Tx.av x := rfl
      have hty : List.take 5 (Tx.av y) = Tx.av y := rfl
      have hcall := hf x hxm y (List.mem_of_getElem? hy)
      clear hf
      by_cases e : x = y
      · simp only [push_cast, seval, e, decide_true] at hcall
        subst e
        repeat' (first
    | refine AW_seq_kn fun K hK => ?_
    | refine AW_block ?_
    | (refine does_call_f rfl (by simp only [push_cast, seval]; rfl) ?_; simp only [push_cast, seval, *]; refine ACall.mono (hcall _ ?hle) ?_; (case hle => exact Heap.le_new (Heap.le_new (Heap.le_refl _) (by assumption)) (by simp_all)); (rintro _ _ ⟨rfl, e2⟩; have e3 := e2.symm; clear e2; subst e3); (try simp only [push_cast, seval, *]))
    | ((first
      | refine AW_region E0 ?_ | refine AW_ret ?_ | refine AW_exit ?_ | refine AW_skip ?_ | unfold retQ); try simp only [push_cast, seval, *])
    | (apply AW_cond; (case hc => (simp only [push_cast, seval]; rfl)); all_goals (intro hc; first | (exfalso; simp only [push_cast, seval, *] at hc; done) | (exact absurd hc (by decide)) | ((try first | rw [Bool.not_true] at hc | rw [Bool.not_false] at hc); first | (with_reducible replace hc := tTT hc); clear hc | (with_reducible replace hc := tFF hc); clear hc | (have hp := hc; try simp only [decide_eq_true_eq, decide_eq_false_iff_not, bA, bB, bC, bD, bE, bF, bG, bH] at hp))))
    | (refine Kn.go hK ?_; clear hK K)
    | refine Kn.go (by assumption) ?_
    | (intro n hn; (try simp only [upd_none2, join_none_iff, ite_none, ne_eq] at hn); (try simp only [push_cast, seval, *]))
    | (intro hc)
    | fail)
        exact ⟨hinv.step hx hy, by (first | trivial | (simp only [push_cast, seval, *]; done)), by (first | trivial | ((simp only [push_cast, seval, *]); repeat' (first | rfl | exact Heap.le_refl _ | refine And.intro ?_ ?_)) | rfl | exact ⟨rfl, rfl⟩ | exact ⟨rfl, rfl, rfl⟩ | exact Heap.le_refl _)⟩
      · have hne : ¬ a = b := by intro h; subst h; rw [hx] at hy; cases hy; exact e rfl
        simp only [push_cast, seval, e, decide_false] at hcall
        repeat' (first
    | refine AW_seq_kn fun K hK => ?_
    | refine AW_block ?_
    | (refine does_call_f rfl (by simp only [push_cast, seval]; rfl) ?_; simp only [push_cast, seval, *]; refine ACall.mono (hcall _ ?hle) ?_; (case hle => exact Heap.le_new (Heap.le_new (Heap.le_refl _) (by assumption)) (by simp_all)); (rintro _ _ ⟨rfl, e2⟩; have e3 := e2.symm; clear e2; subst e3); (try simp only [push_cast, seval, *]))
    | ((first
      | refine AW_region E0 ?_ | refine AW_ret ?_ | refine AW_exit ?_ | refine AW_skip ?_ | unfold retQ); try simp only [push_cast, seval, *])
    | (apply AW_cond; (case hc => (simp only [push_cast, seval]; rfl)); all_goals (intro hc; first | (exfalso; simp only [push_cast, seval, *] at hc; done) | (exact absurd hc (by decide)) | ((try first | rw [Bool.not_true] at hc | rw [Bool.not_false] at hc); first | (with_reducible replace hc := tTT hc); clear hc | (with_reducible replace hc := tFF hc); clear hc | (have hp := hc; try simp only [decide_eq_true_eq, decide_eq_false_iff_not, bA, bB, bC, bD, bE, bF, bG, bH] at hp))))
    | (refine Kn.go hK ?_; clear hK K)
    | refine Kn.go (by assumption) ?_
    | (intro n hn; (try simp only [upd_none2, join_none_iff, ite_none, ne_eq] at hn); (try simp only [push_cast, seval, *]))
    | (intro hc)
    | fail)
        exact ⟨_, _, Weak.less (by (simp only [push_cast, seval, *])), by simp [hne], rfl⟩
    · intro hinv
      have e : a = b := hinv.done hl
      subst e
      repeat' (first
    | refine AW_seq_kn fun K hK => ?_
    | refine AW_block ?_
    | ((first
      | refine AW_region E0 ?_ | refine AW_ret ?_ | refine AW_exit ?_ | refine AW_skip ?_ | unfold retQ); try simp only [push_cast, seval, *])
    | (apply AW_cond; (case hc => (simp only [push_cast, seval]; rfl)); all_goals (intro hc; first | (exfalso; simp only [push_cast, seval, *] at hc; done) | (exact absurd hc (by decide)) | ((try first | rw [Bool.not_true] at hc | rw [Bool.not_false] at hc); first | (with_reducible replace hc := tTT hc); clear hc | (with_reducible replace hc := tFF hc); clear hc | (have hp := hc; try simp only [decide_eq_true_eq, decide_eq_false_iff_not, bA, bB, bC, bD, bE, bF, bG, bH] at hp))))
    | (refine Kn.go hK ?_; clear hK K)
    | refine Kn.go (by assumption) ?_
    | (intro n hn; (try simp only [upd_none2, join_none_iff, ite_none, ne_eq] at hn); (try simp only [push_cast, seval, *]))
    | (intro hc)
    | fail)
      exact ⟨_, _, Weak.refl _ _, by simp, rfl⟩
  · have hne : ¬ a = b := fun h => hl (by rw [h])
    have hlF : ¬ (a.length : Int) = (b.length : Int) := by omega
    refine ACall_of' Try.func95 rfl (Ent_of Try.func95 (by kernel_rfl) rfl) (by simp [Try.ntmps95]) ?_; simp only [Try.ntmps95, Try.results95]
    repeat' (first
    | refine AW_seq_kn fun K hK => ?_
    | refine AW_block ?_
    | ((first
      | refine AW_region E0 ?_ | refine AW_ret ?_ | refine AW_exit ?_ | refine AW_skip ?_ | unfold retQ); try simp only [push_cast, seval, *])
    | (apply AW_cond; (case hc => (simp only [push_cast, seval]; rfl)); all_goals (intro hc; first | (exfalso; simp only [push_cast, seval, *] at hc; done) | (exact absurd hc (by decide)) | ((try first | rw [Bool.not_true] at hc | rw [Bool.not_false] at hc); first | (with_reducible replace hc := tTT hc); clear hc | (with_reducible replace hc := tFF hc); clear hc | (have hp := hc; try simp only [decide_eq_true_eq, decide_eq_false_iff_not, bA, bB, bC, bD, bE, bF, bG, bH] at hp))))
    | (refine Kn.go hK ?_; clear hK K)
    | refine Kn.go (by assumption) ?_
    | (intro n hn; (try simp only [upd_none2, join_none_iff, ite_none, ne_eq] at hn); (try simp only [push_cast, seval, *]))
    | (intro hc)
    | fail)
    exact ⟨_, _, Weak.refl _ _, by simp [hne], rfl⟩

def Lg.fine (l : Lg) : Prop := (l.txs.length ≤ maxLen ∧ l.done.length ≤ maxLen ∧ l.log.length ≤ maxLen) ∧ ∀ t ∈ l.txs, t.rs.length ≤ maxLen
theorem eqT_p (a b : List Tx) (ha : a.length ≤ maxLen) (hb : b.length ≤ maxLen) (ga : ∀ t ∈ a, t.rs.length ≤ maxLen) (gb : ∀ t ∈ b, t.rs.length ≤ maxLen) : Pure Try.prog 95 [.l 5 (a.map Tx.av), .l 5 (b.map Tx.av), .c (.func (.func 94) #[] #[])] (.c (.bool (decide (a = b)))) := fun H =>
  ACall.argw (fun F => Imps.cons (Imp.refl (Mem.le.refl F) _) id (Imps.cons (Imp.refl (Mem.le.refl F) _) id (Imps.cons (Imp.fn _) (fun _ => rfl) Imps.nil)))
    (eqT_a a b ha hb 94 [] H fun x hx y hy G _ => by simpa using txSame_p x y (ga x hx) (gb y hy) G)
theorem Same_p (x y : Lg) (hx : x.fine) (hy : y.fine) : Pure Try.prog 53 [.g (Lg.av x), .g (Lg.av y)] (.c (.bool (decide (x = y)))) := by
  intro H
  have hq1 := eqT_p x.txs y.txs hx.1.1 hy.1.1 hx.2 hy.2
  have hq2 := eqNm_p x.done y.done hx.1.2.1 hy.1.2.1
  have hq3 := eqRc_p x.log y.log hx.1.2.2 hy.1.2.2
  have hD : decide (x = y) = (decide (x.txs = y.txs) && decide (x.done = y.done) && decide (x.log = y.log)) := by
    rw [Bool.eq_iff_iff]; cases x; cases y; simp [and_assoc]
  rw [hD]
  generalize decide (x.txs = y.txs) = B1 at *
  generalize decide (x.done = y.done) = B2 at *
  generalize decide (x.log = y.log) = B3 at *
  obtain ⟨a, b, c⟩ := x
  obtain ⟨a', b', c'⟩ := y
  simp only [Lg.av] at hq1 hq2 hq3 ⊢
  clear hx hy hD
  cases B1 <;> cases B2
  all_goals
    refine ACall_of' Try.func53 rfl (Ent_of Try.func53 (by kernel_rfl) rfl) (by simp [Try.ntmps53]) ?_; simp only [Try.ntmps53, Try.results53]
    repeat' (first
    | refine AW_seq_kn fun K hK => ?_
    | refine AW_block ?_
    | (refine does_call rfl rfl ?_; simp only [push_cast, seval, *]; refine ACall.monoP (hq1 _) ?_; (try simp only [push_cast, seval, *]))
    | (refine does_call rfl rfl ?_; simp only [push_cast, seval, *]; refine ACall.monoP (hq2 _) ?_; (try simp only [push_cast, seval, *]))
    | (refine does_call rfl rfl ?_; simp only [push_cast, seval, *]; refine ACall.monoP (hq3 _) ?_; (try simp only [push_cast, seval, *]))
    | (refine does_call rfl rfl ?_; simp only [push_cast, seval, *]; refine ACall.monoP (eqRc_p _ _ (by assumption) (by assumption) _) ?_; (try simp only [push_cast, seval, *]))
    | (refine does_call rfl rfl ?_; simp only [push_cast, seval, *]; refine ACall.monoP (eqNm_p _ _ (by assumption) (by assumption) _) ?_; (try simp only [push_cast, seval, *]))
    | ((first
      | refine AW_region E0 ?_ | refine AW_ret ?_ | refine AW_exit ?_ | refine AW_skip ?_ | unfold retQ); try simp only [push_cast, seval, *])
    | ((first | (apply AW_cond; (case hc => (simp only [push_cast, seval]; rfl))) | (apply ER_guard; (case hb => (simp only [push_cast, seval]; rfl)))); all_goals ((intro hc; first | (exfalso; simp only [push_cast, seval, *] at hc; done) | (exact absurd hc (by decide)) | ((try first | rw [Bool.not_true] at hc | rw [Bool.not_false] at hc); first | (with_reducible replace hc := tTT hc); clear hc | (with_reducible replace hc := tFF hc); clear hc | (have hp := hc; try simp only [decide_eq_true_eq, decide_eq_false_iff_not, bA, bB, bC, bD, bE, bF, bG, bH] at hp))) <;> try simp only [push_cast, seval, *]))
    | (refine Kn.go hK ?_; clear hK K)
    | refine Kn.go (by assumption) ?_
    | (intro n hn; (try simp only [upd_none2, join_none_iff, ite_none, ne_eq] at hn); (try simp only [push_cast, seval, *]))
    | (intro hc)
    | (apply ER_blk; (case hp => rfl); (case hb => (simp only [push_cast, seval]; rfl)); (case hd => (simp only [push_cast, seval]; done)); (case h => (intro hc; simp only [push_cast, seval, *]; rfl)); simp only [push_cast, seval, *])
    | fail)
    exact ⟨_, _, Weak.less (by (repeat' (first | exact Heap.le_refl _ | refine hle_upd2 ?_ _ _ | (refine Heap.le_new ?_ ?_; rotate_left 1; focus (first | assumption | (simp only [upd_none2, upd_get, ne_eq, push_cast, seval, *]; done) | (simp [upd_get, *]; done)))))), rfl, rfl⟩
end Go.Proofs.Ytdeckjoeggmagaa
