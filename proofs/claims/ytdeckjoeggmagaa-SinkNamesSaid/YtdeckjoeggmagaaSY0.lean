/- The plain law of SinkNames: a sink that may be stays so. -/
import Derived.Test.YtdeckjoeggmagaaSC
import Derived.Test.YtdeckjoeggmagaaSF
namespace Go.Proofs.Ytdeckjoeggmagaa
open Nat renaming reduceEqDiff → nA, reduceLT → nB, reduceLeDiff → nC, reduceAdd → nD, reduceMul → nE, reduceSub → nF, reduceBEq → nG
open Int renaming reduceToNat → iA, reduceLT → iB, reduceLE → iC, reduceEq → iD
open Bool renaming and_eq_true → bA, or_eq_true → bB, or_eq_false_iff → bC, and_eq_false_iff → bD, not_eq_true' → bE, not_eq_false' → bF, not_true → bG, not_false → bH
set_option linter.all false
set_option maxHeartbeats 4000000
attribute [local irreducible] AW Does ACall tE tS tB tZ

theorem rdyOk_cons (s : Sk) (p : Option Nm) (y : Nm) (l : List Nm) : rdyOk s p (y :: l) = ((ownS s y && aftN p y) && rdyOk s (some y) l) := rfl
theorem rdyOk_mono {s s' : Sk} (h : ∀ y, ownS s y = true → ownS s' y = true) : ∀ (l : List Nm) (p : Option Nm), rdyOk s p l = true → rdyOk s' p l = true
  | [], _, _ => rfl
  | y :: l, p, hr => by
    rw [rdyOk_cons] at hr ⊢
    simp only [Bool.and_eq_true] at hr ⊢
    exact ⟨⟨h y hr.1.1, hr.1.2⟩, rdyOk_mono h l _ hr.2⟩
theorem rdyOk_snoc {s s' : Sk} {x : Nm} (h : ∀ y, ownS s y = true → ownS s' y = true ∧ cmpN y x < 0) (hx : ownS s' x = true) : ∀ (l : List Nm) (p : Option Nm), rdyOk s p l = true → (∀ y, p = some y → cmpN y x < 0) → rdyOk s' p (l ++ [x]) = true
  | [], p, _, hp => by
    rw [List.nil_append, rdyOk_cons, hx]
    cases p with
    | none => rfl
    | some y => simp only [aftN, Bool.true_and, rdyOk, Bool.and_true, decide_eq_true_eq]; exact hp y rfl
  | y :: l, p, hr, hp => by
    rw [rdyOk_cons] at hr
    rw [List.cons_append, rdyOk_cons]
    simp only [Bool.and_eq_true] at hr ⊢
    exact ⟨⟨(h y hr.1.1).1, hr.1.2⟩, rdyOk_snoc h hx l _ hr.2 (fun z e => by cases e; exact (h y hr.1.1).2)⟩
theorem ownS_iff (s : Sk) (y : Nm) : ownS s y = true ↔ nmOk y = true ∧ y.s = s.sub ∧ (y.a < s.att ∨ (y.a = s.att ∧ y.n ≤ s.ser - if s.opn = true then 1 else 0)) := by
  unfold ownS
  simp only [Bool.and_eq_true, Bool.or_eq_true, decide_eq_true_eq]
  exact ⟨fun ⟨⟨a, b⟩, c⟩ => ⟨a, b, c⟩, fun ⟨a, b, c⟩ => ⟨⟨a, b⟩, c⟩⟩
theorem skOk_iff (s : Sk) : skOk s = true ↔ ((0 ≤ s.sub ∧ s.sub < 16) ∧ (1 ≤ s.att ∧ s.att ≤ 1048576) ∧ (0 ≤ s.ser ∧ s.ser ≤ 1048576) ∧ (s.opn = true → ¬ s.ser = 0) ∧ s.rdy.length ≤ 24) ∧ rdyOk s none s.rdy = true := by
  constructor
  · intro h
    exact ⟨skOk_bd h, by simp only [skOk, Bool.and_eq_true] at h; exact h.2⟩
  · rintro ⟨⟨⟨a1, a2⟩, ⟨a3, a4⟩, ⟨a5, a6⟩, a7, a8⟩, a9⟩
    simp only [skOk, skHead, Bool.and_eq_true, decide_eq_true_eq]
    refine ⟨⟨⟨⟨⟨⟨⟨⟨a1, a2⟩, a3⟩, a4⟩, a5⟩, a6⟩, ?_⟩, a8⟩, a9⟩
    cases h : s.opn
    · rfl
    · simp [a7 h]
theorem write_good {s : Sk} {r : Rec} (h : skOk s = true) (he : (writeSk s r).2.2 = 0) : ∃ (c : Int) (A : List Act) (x : Act), writeSk s r = (⟨s.sub, s.att, c, true, s.rdy⟩, A, 0) ∧ x.nm = ⟨s.sub, s.att, c⟩ ∧ skOk ⟨s.sub, s.att, c, true, s.rdy⟩ = true ∧ ((s.opn = true ∧ c = s.ser ∧ A = [x]) ∨ (s.opn = false ∧ c = s.ser + 1 ∧ ∃ y, A = [y, x])) := by
  unfold writeSk at he ⊢
  rw [if_neg (by rw [h]; decide)] at he ⊢
  by_cases hr : recOk r = false
  · rw [if_pos hr] at he; cases he
  rw [if_neg hr] at he ⊢
  cases ho : s.opn
  · rw [ho, if_neg (by decide)] at he
    rw [if_neg (by decide)]
    by_cases h6 : s.ser = 1048576
    · rw [if_pos h6] at he; cases he
    rw [if_neg h6]
    refine ⟨s.ser + 1, _, actS (nameS s (s.ser + 1)) r 2, rfl, rfl, ?_, .inr ⟨rfl, rfl, _, rfl⟩⟩
    obtain ⟨⟨a1, a2, a3, a4, a5⟩, a6⟩ := (skOk_iff s).1 h
    refine (skOk_iff _).2 ⟨⟨a1, a2, ⟨by simp only; omega, by simp only; omega⟩, fun _ => by simp only; omega, a5⟩, ?_⟩
    refine rdyOk_mono (fun y hy => ?_) _ _ a6
    rw [ownS_iff] at hy ⊢
    rw [ho] at hy
    simp only [Bool.false_eq_true, if_false, if_true] at hy ⊢
    exact ⟨hy.1, hy.2.1, by omega⟩
  · rw [if_pos rfl]
    have e : s = ⟨s.sub, s.att, s.ser, true, s.rdy⟩ := by obtain ⟨a, b, c, d, l⟩ := s; simp only at ho; rw [ho]
    refine ⟨s.ser, _, actS (nameS s s.ser) r 2, by rw [← e], rfl, by rw [← e]; exact h, .inl ⟨rfl, rfl, rfl⟩⟩
theorem bar_good {a b c : Int} {l : List Nm} (h : skOk ⟨a, b, c, true, l⟩ = true) (hl : ¬ l.length = 24) : barSk ⟨a, b, c, true, l⟩ = (⟨a, b, c, false, l ++ [⟨a, b, c⟩]⟩, [⟨3, ⟨a, b, c⟩, zRec⟩], l ++ [⟨a, b, c⟩], 0) ∧ skOk ⟨a, b, c, false, l ++ [⟨a, b, c⟩]⟩ = true := by
  constructor
  · unfold barSk
    rw [if_neg (by rw [h]; decide), if_neg (by simp), if_neg hl]
    rfl
  · obtain ⟨⟨a1, a2, a3, a4, a5⟩, a6⟩ := (skOk_iff _).1 h
    simp only at a1 a2 a3 a4 a5 a6
    have hc := a4 trivial
    refine (skOk_iff _).2 ⟨⟨a1, a2, a3, (fun h => nomatch h), by simp only [List.length_append, List.length_cons, List.length_nil]; omega⟩, ?_⟩
    refine rdyOk_snoc (fun y hy => ?_) ?_ _ _ a6 (fun y e => by cases e)
    · rw [ownS_iff] at hy ⊢
      simp only [if_true, Bool.false_eq_true, if_false] at hy ⊢
      refine ⟨⟨hy.1, hy.2.1, by omega⟩, ?_⟩
      rw [cmpN_lt, ltN, decide_eq_true_eq]
      simp only
      omega
    · rw [ownS_iff]
      refine ⟨?_, rfl, .inr ⟨rfl, by simp⟩⟩
      simp only [nmOk, Bool.and_eq_true, decide_eq_true_eq]
      omega
theorem bar_full {a b c : Int} {l : List Nm} (h : skOk ⟨a, b, c, true, l⟩ = true) (hl : l.length = 24) : barSk ⟨a, b, c, true, l⟩ = (zeroSk, [], [], 6) := by
  unfold barSk
  rw [if_neg (by rw [h]; decide), if_neg (by simp), if_pos hl]
theorem name_open {a b c : Int} {l : List Nm} (h : skOk ⟨a, b, c, true, l⟩ = true) : nameR ⟨a, b, c, true, l⟩ = (⟨a, b, c⟩, true) := by
  unfold nameR
  rw [if_pos ⟨h, rfl⟩]; rfl
theorem name_shut {a b c : Int} {l : List Nm} : nameR ⟨a, b, c, false, l⟩ = (zNm, false) := by
  unfold nameR
  rw [if_neg (by simp)]
end Go.Proofs.Ytdeckjoeggmagaa
