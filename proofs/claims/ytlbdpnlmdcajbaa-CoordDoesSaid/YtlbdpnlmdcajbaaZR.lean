/- What stays true of a table when an op is run: the plain law of CoordRises. -/
import Derived.Test.YtlbdpnlmdcajbaaZP
namespace Go.Proofs.Ytlbdpnlmdcajbaa
open Go.RowKit
open Nat renaming reduceEqDiff → nA, reduceLT → nB, reduceLeDiff → nC, reduceAdd → nD, reduceMul → nE, reduceSub → nF, reduceBEq → nG
open Int renaming reduceToNat → iA, reduceLT → iB, reduceLE → iC, reduceEq → iD
open Bool renaming and_eq_true → bA, or_eq_true → bB, or_eq_false_iff → bC, and_eq_false_iff → bD, not_eq_true' → bE, not_eq_false' → bF, not_true → bG, not_false → bH
set_option linter.all false
set_option maxHeartbeats 4000000
attribute [local irreducible] AW Does ACall tE tS tB tZ
set_option maxRecDepth 5000

theorem pdGo_cons {c : Cd} {n b : Int} {p : Pd} {l : List Pd} : pdGo c n b (p :: l) = true ↔ ((splS p.num).1 = c.epoch ∧ (splS p.num).2 ≤ c.counter ∧ n < p.num ∧ b ≤ p.begun ∧ p.begun ≤ 1099511627776 ∧ akGo c.tasks (-1) p.acks = true) ∧ pdGo c p.num p.begun l = true := by
  rw [pdGo]
  simp only [Bool.and_eq_true, decide_eq_true_eq]
  constructor
  · rintro ⟨⟨⟨⟨⟨h1, h2⟩, h3⟩, h4, h5⟩, h6⟩, h7⟩
    exact ⟨⟨h1, h2, h3, h4, h5, h6⟩, h7⟩
  · rintro ⟨⟨h1, h2, h3, h4, h5, h6⟩, h7⟩
    exact ⟨⟨⟨⟨⟨h1, h2⟩, h3⟩, h4, h5⟩, h6⟩, h7⟩
theorem pdGo_sub {c : Cd} {l' l : List Pd} (s : List.Sublist l' l) : ∀ {n b n' b' : Int}, n' ≤ n → b' ≤ b → pdGo c n b l = true → pdGo c n' b' l' = true := by
  induction s with
  | slnil => intros; rfl
  | cons a s ih =>
    intro n b n' b' hn hb h
    rw [pdGo_cons] at h
    exact ih (by omega) (by omega) h.2
  | cons_cons a s ih =>
    intro n b n' b' hn hb h
    rw [pdGo_cons] at h ⊢
    obtain ⟨⟨h1, h2, h3, h4, h5, h6⟩, h7⟩ := h
    exact ⟨⟨h1, h2, by omega, by omega, h5, h6⟩, ih (Int.le_refl _) (Int.le_refl _) h7⟩
theorem pdGo_up {c c' : Cd} (he : c'.epoch = c.epoch) (hk : c.counter ≤ c'.counter) (ht : c'.tasks = c.tasks) : ∀ {l : List Pd} {n b : Int}, pdGo c n b l = true → pdGo c' n b l = true
  | [], _, _, _ => rfl
  | p :: l, n, b, h => by
    rw [pdGo_cons] at h ⊢
    rw [he, ht]
    obtain ⟨⟨h1, h2, h3, h4, h5, h6⟩, h7⟩ := h
    exact ⟨⟨h1, by omega, h3, h4, h5, h6⟩, pdGo_up he hk ht h7⟩
theorem pdGo_set {c : Cd} {p p' : Pd} (h1 : p'.num = p.num) (h2 : p'.begun = p.begun) (h3 : akGo c.tasks (-1) p'.acks = true) : ∀ {l : List Pd} {i : Nat} {n b : Int}, l[i]? = some p → pdGo c n b l = true → pdGo c n b (l.set i p') = true
  | [], _, _, _, _, h => h
  | q :: l, 0, n, b, hp, h => by
    simp only [List.getElem?_cons_zero, Option.some.injEq] at hp
    subst hp
    rw [pdGo_cons] at h
    rw [List.set_cons_zero, pdGo_cons, h1, h2]
    obtain ⟨⟨k1, k2, k3, k4, k5, k6⟩, k7⟩ := h
    exact ⟨⟨k1, k2, k3, k4, k5, h3⟩, k7⟩
  | q :: l, i + 1, n, b, hp, h => by
    simp only [List.getElem?_cons_succ] at hp
    rw [pdGo_cons] at h
    rw [List.set_cons_succ, pdGo_cons]
    exact ⟨h.1, pdGo_set h1 h2 h3 hp h.2⟩
theorem pdGo_snoc {c : Cd} {q : Pd} (h1 : (splS q.num).1 = c.epoch) (h2 : (splS q.num).2 ≤ c.counter) (h3 : q.begun ≤ 1099511627776) (h4 : akGo c.tasks (-1) q.acks = true) : ∀ {l : List Pd} {n b : Int}, n < q.num → b ≤ q.begun → (∀ p ∈ l, p.num < q.num ∧ p.begun ≤ q.begun) → pdGo c n b l = true → pdGo c n b (l ++ [q]) = true
  | [], n, b, hn, hb, _, _ => by rw [List.nil_append, pdGo_cons]; exact ⟨⟨h1, h2, hn, hb, h3, h4⟩, rfl⟩
  | p :: l, n, b, hn, hb, ha, h => by
    rw [pdGo_cons] at h
    rw [List.cons_append, pdGo_cons]
    exact ⟨h.1, pdGo_snoc h1 h2 h3 h4 (ha p (by simp)).1 (ha p (by simp)).2 (fun x hx => ha x (by simp [hx])) h.2⟩
theorem pdGo_mem {c : Cd} : ∀ {l : List Pd} {n b : Int}, pdGo c n b l = true → ∀ p ∈ l, (splS p.num).1 = c.epoch ∧ (splS p.num).2 ≤ c.counter ∧ n < p.num ∧ b ≤ p.begun
  | [], _, _, _, p, hp => by cases hp
  | q :: l, n, b, h, p, hp => by
    rw [pdGo_cons] at h
    obtain ⟨⟨k1, k2, k3, k4, -, -⟩, k7⟩ := h
    rcases List.mem_cons.1 hp with rfl | hp
    · exact ⟨k1, k2, k3, k4⟩
    · obtain ⟨g1, g2, g3, g4⟩ := pdGo_mem k7 p hp
      exact ⟨g1, g2, by omega, by omega⟩
theorem pdGo_last {c : Cd} : ∀ {l : List Pd} {n b : Int} {q : Pd}, pdGo c n b l = true → l.getLast? = some q → ∀ p ∈ l, p.begun ≤ q.begun
  | [], _, _, q, _, hq, p, hp => by cases hp
  | [x], _, _, q, h, hq, p, hp => by
    simp only [List.getLast?_singleton, Option.some.injEq] at hq
    simp only [List.mem_singleton] at hp
    subst hq hp; exact Int.le_refl _
  | x :: y :: l, n, b, q, h, hq, p, hp => by
    rw [pdGo_cons] at h
    rw [List.getLast?_cons_cons] at hq
    have := pdGo_last h.2 hq
    rcases List.mem_cons.1 hp with rfl | hp
    · have h2 := h.2
      rw [pdGo_cons] at h2
      have := this y (by simp)
      omega
    · exact this p hp
theorem splS_num {n e : Int} (h0 : 0 ≤ n) (he : 1 ≤ e) (h : (splS n).1 = e) : n = e * 2147483648 + (splS n).2 ∧ 1 ≤ (splS n).2 := by
  unfold splS at *
  by_cases c : numOkS (n / 2147483648) (n % 2147483648) = true
  · rw [if_pos c] at h ⊢
    simp only at h ⊢
    unfold numOkS at c
    simp only [Bool.and_eq_true, decide_eq_true_eq] at c
    omega
  · rw [if_neg c] at h
    simp only at h
    omega
theorem splS_numS {e c : Int} (h : numOkS e c = true) : splS (numS e c) = (e, c) ∧ numS e c = e * 2147483648 + c := by
  have e1 : numS e c = e * 2147483648 + c := by unfold numS; rw [if_pos h]
  have h2 := h
  unfold numOkS at h2
  simp only [Bool.and_eq_true, decide_eq_true_eq] at h2
  have d1 : (e * 2147483648 + c) / 2147483648 = e := by omega
  have d2 : (e * 2147483648 + c) % 2147483648 = c := by omega
  refine ⟨?_, e1⟩
  rw [e1]
  unfold splS
  rw [d1, d2, if_pos h]
theorem headOk_iff (c : Cd) : headOk c = true ↔ (1 ≤ c.epoch ∧ c.epoch ≤ 2147483647) ∧ c.counter ≤ 2147483647 ∧ (1 ≤ c.tasks ∧ c.tasks ≤ 16) ∧ (1 ≤ c.attempt ∧ c.attempt ≤ 1048576) ∧ (1 ≤ c.span ∧ c.span ≤ 100) ∧ c.pend.length ≤ 2 := by
  unfold headOk
  simp only [Bool.and_eq_true, decide_eq_true_eq, and_assoc]
theorem cdOk_iff (c : Cd) : cdOk c = true ↔ headOk c = true ∧ pdGo c 0 0 c.pend = true := by
  unfold cdOk; rw [Bool.and_eq_true]
theorem putAk_cons (x : Ak) (l : List Ak) (a : Ak) : putAk (x :: l) a = if x.task < a.task then x :: putAk l a else a :: x :: l := by
  unfold putAk ackK
  rw [lbd_cons]
  by_cases c : x.task < a.task
  · rw [if_pos (by simp; omega), if_pos c]; simp
  · rw [if_neg (by simp; omega), if_neg c]; simp
theorem ackHas_cons (x : Ak) (l : List Ak) (t : Int) : ackHas (x :: l) t = if x.task < t then ackHas l t else decide (x.task = t) := by
  unfold ackHas bsF
  rw [lbd_cons]
  by_cases c : x.task < t
  · rw [if_pos (by simp; omega), if_pos c]; simp
  · rw [if_neg (by simp; omega), if_neg c]
    simp only [List.getElem?_cons_zero]
    rw [decide_eq_decide]; omega
theorem putAk_ok {ts : Int} {a : Ak} (h1 : a.task < ts) (h2 : a.bytes.length ≤ 3000) : ∀ {l : List Ak} {last : Int}, last < a.task → akGo ts last l = true → ackHas l a.task = false → akGo ts last (putAk l a) = true
  | [], last, h, _, _ => by
    have e : putAk [] a = [a] := rfl
    rw [e, akGo, if_pos ⟨h, h1, h2⟩]; rfl
  | x :: l, last, h, hg, hh => by
    rw [akGo] at hg
    split at hg
    · rename_i c
      rw [ackHas_cons] at hh
      rw [putAk_cons]
      by_cases d : x.task < a.task
      · rw [if_pos d] at hh ⊢
        rw [akGo, if_pos c]
        exact putAk_ok h1 h2 d hg hh
      · rw [if_neg d] at hh ⊢
        have d2 : ¬ x.task = a.task := by simpa using hh
        rw [akGo, if_pos ⟨h, h1, h2⟩, akGo, if_pos ⟨by omega, c.2⟩]
        exact hg
    · cases hg
end Go.Proofs.Ytlbdpnlmdcajbaa
