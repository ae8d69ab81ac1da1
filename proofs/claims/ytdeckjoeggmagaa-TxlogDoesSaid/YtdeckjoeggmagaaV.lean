/- Plain law: what stays true of a log. -/
import Derived.Test.YtdeckjoeggmagaaU
import Derived.Test.YtdeckjoeggmagaaQ
namespace Go.Proofs.Ytdeckjoeggmagaa
open Go.RowKit
open Nat renaming reduceEqDiff → nA, reduceLT → nB, reduceLeDiff → nC, reduceAdd → nD, reduceMul → nE, reduceSub → nF, reduceBEq → nG
open Int renaming reduceToNat → iA, reduceLT → iB, reduceLE → iC, reduceEq → iD
open Bool renaming and_eq_true → bA, or_eq_true → bB, or_eq_false_iff → bC, and_eq_false_iff → bD, not_eq_true' → bE, not_eq_false' → bF, not_true → bG, not_false → bH
set_option linter.all false
set_option maxHeartbeats 4000000
attribute [local irreducible] AW Does ACall tE tS tB tZ

theorem cmpN_lt_ne {a b : Nm} (h : cmpN a b < 0) : a ≠ b := fun e => by have := cmpN_zero.2 e; omega
theorem cmpN_trans {a b c : Nm} (h1 : cmpN a b < 0) (h2 : cmpN b c < 0) : cmpN a c < 0 := by rw [cmpN_neg] at h1 h2 ⊢; omega
theorem cmpN_asym {a b : Nm} (h1 : cmpN a b < 0) : ¬ cmpN b a < 0 := by rw [cmpN_neg] at h1 ⊢; omega
theorem cmpN_tot {a b : Nm} (h1 : ¬ cmpN a b < 0) (h2 : a ≠ b) : cmpN b a < 0 := by
  have h3 : ¬ cmpN a b = 0 := fun h => h2 (cmpN_zero.1 h)
  obtain ⟨a1, a2, a3⟩ := a
  obtain ⟨b1, b2, b3⟩ := b
  have h4 : ¬ (a1 = b1 ∧ a2 = b2 ∧ a3 = b3) := fun ⟨e1, e2, e3⟩ => h2 (by rw [e1, e2, e3])
  rw [cmpN_neg] at h1 ⊢
  simp only at h1 ⊢
  omega
theorem txsOk_iff : ∀ (l : List Tx) (p : Option Nm) (met : List Nm), txsOk p met l = true ↔ (∀ x ∈ l, nmOk x.nm = true ∧ ¬ x.nm ∈ met ∧ (x.st = 1 ∨ x.st = 2) ∧ ∀ r ∈ x.rs, recOk r = true) ∧ RiseT l ∧ ∀ y, p = some y → ∀ x ∈ l, cmpN y x.nm < 0
  | [], p, met => by simp [txsOk, RiseT]
  | x :: l, p, met => by
    have ih := txsOk_iff l (some x.nm) (x.nm :: met)
    have hp : aftN p x.nm = true ↔ ∀ y, p = some y → cmpN y x.nm < 0 := by
      cases p with
      | none => simp [aftN]
      | some y => simp [aftN]
    have hr : (!(x.rs.any fun r => !recOk r)) = true ↔ ∀ r ∈ x.rs, recOk r = true := by simp
    have hm : (!decide (x.nm ∈ met)) = true ↔ ¬ x.nm ∈ met := by simp
    have hs : (decide (x.st = 1) || decide (x.st = 2)) = true ↔ (x.st = 1 ∨ x.st = 2) := by simp
    simp only [txsOk, Bool.and_eq_true, ih, hp, hr, hm, hs]
    constructor
    · rintro ⟨⟨⟨⟨⟨a1, a2⟩, a3⟩, a4⟩, a5⟩, b1, b2, b3⟩
      refine ⟨fun z hz => ?_, ?_, fun y hy z hz => ?_⟩
      · rcases List.mem_cons.1 hz with rfl | hz
        · exact ⟨a1, a2, a3, a5⟩
        · obtain ⟨c1, c2, c3, c4⟩ := b1 z hz
          exact ⟨c1, fun h => c2 (List.mem_cons_of_mem _ h), c3, c4⟩
      · exact List.Pairwise.cons (fun z hz => b3 x.nm rfl z hz) b2
      · rcases List.mem_cons.1 hz with rfl | hz
        · exact a4 y hy
        · exact cmpN_trans (a4 y hy) (b3 x.nm rfl z hz)
    · rintro ⟨h1, h2, h3⟩
      have h2' := List.pairwise_cons.1 h2
      obtain ⟨c1, c2, c3, c4⟩ := h1 x (by simp)
      refine ⟨⟨⟨⟨⟨c1, c2⟩, c3⟩, fun y hy => h3 y hy x (by simp)⟩, c4⟩, fun z hz => ?_, h2'.2, fun y hy z hz => ?_⟩
      · obtain ⟨d1, d2, d3, d4⟩ := h1 z (by simp [hz])
        refine ⟨d1, fun h => ?_, d3, d4⟩
        rcases List.mem_cons.1 h with e | h
        · exact cmpN_lt_ne (h2'.1 z hz) e.symm
        · exact d2 h
      · cases hy; exact h2'.1 z hz
theorem dnOk_iff : ∀ (l : List Nm) (met : List Nm), dnOk met l = true ↔ (∀ x ∈ l, nmOk x = true ∧ ¬ x ∈ met) ∧ l.Nodup
  | [], met => by simp [dnOk]
  | x :: l, met => by
    have ih := dnOk_iff l (x :: met)
    have hm : (!decide (x ∈ met)) = true ↔ ¬ x ∈ met := by simp
    simp only [dnOk, Bool.and_eq_true, ih, hm, List.nodup_cons]
    constructor
    · rintro ⟨⟨a1, a2⟩, b1, b2⟩
      refine ⟨fun z hz => ?_, fun h => (b1 x h).2 (by simp), b2⟩
      rcases List.mem_cons.1 hz with rfl | hz
      · exact ⟨a1, a2⟩
      · exact ⟨(b1 z hz).1, fun h => (b1 z hz).2 (by simp [h])⟩
    · rintro ⟨h1, h2, h3⟩
      refine ⟨h1 x (by simp), fun z hz => ⟨(h1 z (by simp [hz])).1, fun h => ?_⟩, h3⟩
      rcases List.mem_cons.1 h with rfl | h
      · exact h2 hz
      · exact (h1 z (by simp [hz])).2 h
structure LOk (l : Lg) : Prop where
  t24 : l.txs.length ≤ 24
  d300 : l.done.length ≤ 300
  size : sizeS l ≤ 400
  log : ∀ r ∈ l.log, recOk r = true
  txs : ∀ x ∈ l.txs, nmOk x.nm = true ∧ (x.st = 1 ∨ x.st = 2) ∧ ∀ r ∈ x.rs, recOk r = true
  rise : RiseT l.txs
  dn : ∀ n ∈ l.done, nmOk n = true
  nd : l.done.Nodup
  sep : ∀ x ∈ l.txs, ¬ x.nm ∈ l.done
theorem lgOk_iff (l : Lg) : lgOk l = true ↔ LOk l := by
  have hr : (!(l.log.any fun r => !recOk r)) = true ↔ ∀ r ∈ l.log, recOk r = true := by simp
  simp only [lgOk, Bool.and_eq_true, decide_eq_true_eq, hr, txsOk_iff, dnOk_iff]
  constructor
  · rintro ⟨⟨⟨⟨a1, a2⟩, a3⟩, a4⟩, ⟨b1, b2, -⟩, c1, c2⟩
    exact ⟨a1, a2, a3, a4, fun x hx => ⟨(b1 x hx).1, (b1 x hx).2.2⟩, b2, fun n hn => (c1 n hn).1, c2, fun x hx h => (c1 _ h).2 (by simp; exact ⟨x, hx, rfl⟩)⟩
  · rintro ⟨a1, a2, a3, a4, b1, b2, c1, c2, c3⟩
    refine ⟨⟨⟨⟨a1, a2⟩, a3⟩, a4⟩, ⟨fun x hx => ⟨(b1 x hx).1, by simp, (b1 x hx).2⟩, b2, by simp⟩, fun n hn => ⟨c1 n hn, fun h => ?_⟩, c2⟩
    simp only [List.mem_reverse, List.mem_map] at h
    obtain ⟨x, hx, rfl⟩ := h
    exact c3 x hx hn
/-! where a name's transaction is -/
theorem at_before {l : List Tx} {v : Nm} {i : Nat} {x : Tx} (hi : i < atI l v) (hx : l[i]? = some x) : cmpN x.nm v < 0 := of_decide_eq_true (lbd_lt (p := fun x : Tx => decide (cmpN x.nm v < 0)) hi hx)
theorem at_behind {l : List Tx} (h : RiseT l) {v : Nm} {i : Nat} {x : Tx} (hi : atI l v ≤ i) (hx : l[i]? = some x) : ¬ cmpN x.nm v < 0 := fun hc => by
  have h1 := lbd_up (p := fun x : Tx => decide (cmpN x.nm v < 0)) hx (fun j y hj hy => by
    by_cases e : j = i
    · subst e; rw [hx] at hy; cases hy; exact decide_eq_true hc
    · exact decide_eq_true (rise_mono h v j i y x (by omega) hy hx hc))
  unfold atI at hi; omega
theorem atB_iff {l : List Tx} (h : RiseT l) {v : Nm} : atB l v = true ↔ v ∈ l.map Tx.nm := by
  constructor
  · intro hb
    obtain ⟨x, hx, rfl⟩ := at_true hb
    exact List.mem_map_of_mem (List.mem_of_getElem? hx)
  · intro hm
    obtain ⟨x, hx, rfl⟩ := List.mem_map.1 hm
    obtain ⟨i, hi⟩ := List.mem_iff_getElem?.1 hx
    have h0 : cmpN x.nm x.nm = 0 := cmpN_zero.2 rfl
    have h1 : atI l x.nm ≤ i := by
      rcases Nat.lt_or_ge i (atI l x.nm) with c | c
      · have := at_before c hi; omega
      · exact c
    have h2 : ∀ y, l[atI l x.nm]? = some y → y.nm = x.nm := fun y hy => by
      by_cases e : atI l x.nm = i
      · rw [e, hi] at hy; cases hy; rfl
      · have h3 := at_behind h (Nat.le_refl _) hy
        obtain ⟨c1, e1⟩ := List.getElem?_eq_some_iff.1 hy
        obtain ⟨c2, e2⟩ := List.getElem?_eq_some_iff.1 hi
        have h4 := List.pairwise_iff_getElem.1 h _ _ c1 c2 (by omega)
        rw [e1, e2] at h4
        exact absurd h4 h3
    cases hy : l[atI l x.nm]? with
    | none =>
      have := (List.getElem?_eq_some_iff.1 hi).1
      have := List.getElem?_eq_none_iff.1 hy
      omega
    | some y =>
      have := h2 y hy
      unfold atB
      rw [bsF_some (i := atI l x.nm) rfl hy]
      exact decide_eq_true (cmpN_zero.2 this)
theorem atB_not {l : List Tx} (h : RiseT l) {v : Nm} : atB l v = false ↔ ¬ v ∈ l.map Tx.nm := by
  rw [← atB_iff h]; simp
end Go.Proofs.Ytdeckjoeggmagaa
