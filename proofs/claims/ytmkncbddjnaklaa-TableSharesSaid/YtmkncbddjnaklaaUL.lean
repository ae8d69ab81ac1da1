/- Plain law: what is in a table; joins. -/
import Derived.Test.YtmkncbddjnaklaaUK
import Derived.Test.YtmkncbddjnaklaaTM
namespace Go.Proofs.Ytmkncbddjnaklaa
open Go.RowKit
open Nat renaming reduceEqDiff → nA, reduceLT → nB, reduceLeDiff → nC, reduceAdd → nD, reduceMul → nE, reduceSub → nF, reduceBEq → nG
open Int renaming reduceToNat → iA, reduceLT → iB, reduceLE → iC, reduceEq → iD
open Bool renaming and_eq_true → bA, or_eq_true → bB, or_eq_false_iff → bC, and_eq_false_iff → bD, not_eq_true' → bE, not_eq_false' → bF, not_true → bG, not_false → bH
set_option linter.all false
set_option maxHeartbeats 4000000
attribute [local irreducible] AW Does ACall tE tS tB tZ

theorem atB_iff (r : Rec) : ∀ T : List KC, Rise T → (atB T r = true ↔ ∃ x ∈ T, cmpR (keyS x) r = 0)
  | [], _ => by simp [atB, bsF]
  | x :: l, h => by
    have ht := (List.pairwise_cons.1 h).2
    have ih := atB_iff r l ht
    by_cases hn : cmpR (keyS x) r < 0
    · have e1 : lbd (fun x => decide (cmpR (keyS x) r < 0)) (x :: l) = lbd (fun x => decide (cmpR (keyS x) r < 0)) l + 1 := by simp [lbd, List.takeWhile_cons, hn]
      have e2 : atB (x :: l) r = atB l r := by
        unfold atB bsF
        rw [e1, List.getElem?_cons_succ]
      rw [e2, ih]
      constructor
      · rintro ⟨y, hy, h0⟩; exact ⟨y, List.mem_cons_of_mem _ hy, h0⟩
      · rintro ⟨y, hy, h0⟩
        rcases List.mem_cons.1 hy with rfl | hy
        · omega
        · exact ⟨y, hy, h0⟩
    · have hp := rise_tail h (r := r) (by omega)
      have e1 : lbd (fun x => decide (cmpR (keyS x) r < 0)) (x :: l) = 0 := by simp [lbd, List.takeWhile_cons, hn]
      have e2 : atB (x :: l) r = decide (cmpR (keyS x) r = 0) := by
        unfold atB bsF
        rw [e1]; rfl
      rw [e2, decide_eq_true_eq]
      constructor
      · intro h0; exact ⟨x, List.mem_cons_self, h0⟩
      · rintro ⟨y, hy, h0⟩
        rcases List.mem_cons.1 hy with rfl | hy
        · exact h0
        · have := hp y hy; omega
theorem rp_mem_iff (r : Rec) (c : CellD) (z : KC) : ∀ l : List KC, z ∈ rpGo r c false l ↔ (z ∈ l ∧ ¬ cmpR (keyS z) r = 0) ∨ z = newC r c
  | [] => by simp [rpGo]
  | x :: l => by
    have ih := rp_mem_iff r c z l
    simp only [rpGo, Bool.not_false, Bool.true_and, Bool.false_or]
    by_cases hp : 0 < cmpR (keyS x) r
    · rw [decide_eq_true hp, if_pos rfl, if_neg (by omega), rp_true]
      simp only [List.mem_append, List.mem_cons, List.not_mem_nil, or_false, List.mem_filter, Bool.not_eq_true', decide_eq_false_iff_not]
      constructor
      · rintro ((h | h) | h)
        · exact .inr h
        · subst h; exact .inl ⟨.inl rfl, by omega⟩
        · exact .inl ⟨.inr h.1, h.2⟩
      · rintro (⟨h | h, h2⟩ | h)
        · exact .inl (.inr h)
        · exact .inr ⟨h, h2⟩
        · exact .inl (.inl h)
    · rw [decide_eq_false hp, if_neg (by simp)]
      simp only [List.nil_append, List.mem_append, ih, List.mem_cons]
      by_cases h0 : cmpR (keyS x) r = 0
      · rw [if_pos h0]
        constructor
        · rintro (h | ⟨h, h2⟩ | h)
          · simp at h
          · exact .inl ⟨.inr h, h2⟩
          · exact .inr h
        · rintro (⟨h | h, h2⟩ | h)
          · subst h; exact absurd h0 h2
          · exact .inr (.inl ⟨h, h2⟩)
          · exact .inr (.inr h)
      · rw [if_neg h0]
        constructor
        · rintro (h | ⟨h, h2⟩ | h)
          · simp at h; subst h; exact .inl ⟨.inl rfl, h0⟩
          · exact .inl ⟨.inr h, h2⟩
          · exact .inr h
        · rintro (⟨h | h, h2⟩ | h)
          · subst h; exact .inl (by simp)
          · exact .inr (.inl ⟨h, h2⟩)
          · exact .inr (.inr h)
theorem set_mem {T : List KC} (h : Rise T) (r : Rec) {c : CellD} (hc : ¬ c = zeroC) (z : KC) : z ∈ setS T r c ↔ (z ∈ T ∧ ¬ cmpR (keyS z) r = 0) ∨ z = newC r c := by
  rw [setS_rp r c T h, decide_eq_false hc]; exact rp_mem_iff r c z T
theorem set_mem0 {T : List KC} (h : Rise T) (r : Rec) (z : KC) : z ∈ setS T r zeroC ↔ (z ∈ T ∧ ¬ cmpR (keyS z) r = 0) := by
  rw [setS_rp r zeroC T h, decide_eq_true rfl, rp_true]
  simp [List.mem_filter]
/-- what rises and has the same rows is the same -/
theorem rise_ext : ∀ {a b : List KC}, Rise a → Rise b → (∀ z, z ∈ a ↔ z ∈ b) → a = b
  | [], [], _, _, _ => rfl
  | [], y :: b, _, _, h => by have := (h y).2 (by simp); simp at this
  | x :: a, [], _, _, h => by have := (h x).1 (by simp); simp at this
  | x :: a, y :: b, ha, hb, h => by
    have ha2 := List.pairwise_cons.1 ha
    have hb2 := List.pairwise_cons.1 hb
    have hxy : x = y := by
      rcases List.mem_cons.1 ((h x).1 (by simp)) with e | e
      · exact e
      · rcases List.mem_cons.1 ((h y).2 (by simp)) with e2 | e2
        · exact e2.symm
        · have h1 := hb2.1 x e
          have h2 := ha2.1 y e2
          rw [cmpR_neg] at h1 h2
          omega
    subst hxy
    have hnx : ∀ l : List KC, (∀ z ∈ l, cmpR (keyS x) (keyS z) < 0) → x ∉ l := fun l hl hm => by
      have := hl x hm; rw [cmpR_neg] at this; omega
    have : a = b := rise_ext ha2.2 hb2.2 (fun z => by
      constructor
      · intro hz
        rcases List.mem_cons.1 ((h z).1 (List.mem_cons_of_mem _ hz)) with e | e
        · subst e; exact absurd hz (hnx a ha2.1)
        · exact e
      · intro hz
        rcases List.mem_cons.1 ((h z).2 (List.mem_cons_of_mem _ hz)) with e | e
        · subst e; exact absurd hz (hnx b hb2.1)
        · exact e)
    rw [this]
/-- two rows of one table with one key are one -/
theorem rise_uni {T : List KC} (h : Rise T) {x y : KC} (hx : x ∈ T) (hy : y ∈ T) (he : cmpR (keyS x) (keyS y) = 0) : x = y := by
  induction T with
  | nil => cases hx
  | cons a l ih =>
    have h2 := List.pairwise_cons.1 h
    rcases List.mem_cons.1 hx with e1 | e1 <;> rcases List.mem_cons.1 hy with e2 | e2
    · rw [e1, e2]
    · subst e1; have := h2.1 y e2; omega
    · subst e2; have := h2.1 x e1; rw [cmpR_neg] at this; rw [cmpR_zero] at he; omega
    · exact ih h2.2 e1 e2
theorem getS_mem {T : List KC} (h : Rise T) {x : KC} (hx : x ∈ T) {r : Rec} (he : cmpR (keyS x) r = 0) : getS T r = cellK x := by
  unfold getS
  cases hf : T.find? (fun x => decide (cmpR (keyS x) r = 0)) with
  | none => rw [List.find?_eq_none] at hf; have := hf x hx; simp [he] at this
  | some y =>
    have hy := List.mem_of_find?_eq_some hf
    have hp := List.find?_some hf
    simp only [decide_eq_true_eq] at hp
    have : x = y := rise_uni h hx hy (by rw [cmpR_zero] at he hp ⊢; omega)
    rw [this]
theorem getS_no {T : List KC} {r : Rec} (h : ∀ x ∈ T, ¬ cmpR (keyS x) r = 0) : getS T r = zeroC :=
  getS_none fun x hx => decide_eq_false (h x hx)
theorem getS_at {T : List KC} (h : tOk T = true) (r : Rec) : atB T r = true ↔ ¬ getS T r = zeroC := by
  have hr := tOk_rise h
  rw [atB_iff r T hr]
  constructor
  · rintro ⟨x, hx, he⟩ h0
    rw [getS_mem hr hx he] at h0
    have := (tGo_mem T none h x hx).2
    have e := congrArg CellD.count h0
    simp only [cellK, zeroC] at e
    omega
  · intro h0
    by_cases hh : ∃ x ∈ T, cmpR (keyS x) r = 0
    · exact hh
    · exact absurd (getS_no fun x hx he => hh ⟨x, hx, he⟩) h0
theorem key_new (r : Rec) (c : CellD) (q : Rec) : cmpR (keyS (newC r c)) q = 0 ↔ (r.s = q.s ∧ r.k = q.k) := by
  rw [cmpR_zero]; rfl
theorem new_self (x : KC) : newC (keyS x) (cellK x) = x := rfl
theorem cell_nz {x : KC} (h : 1 ≤ x.n) : ¬ cellK x = zeroC := fun e => by
  have := congrArg CellD.count e
  simp only [cellK, zeroC] at this
  omega
/-- a join that goes has the rows of both -/
theorem joinA_ok : ∀ (l : List KC) (T : List KC), Rise T → Rise l → (∀ x ∈ l, 1 ≤ x.n) → (∀ x ∈ l, ∀ y ∈ T, ¬ cmpR (keyS y) (keyS x) = 0) →
    (joinA T l).2 = 0 ∧ Rise (joinA T l).1 ∧ ∀ z, z ∈ (joinA T l).1 ↔ z ∈ T ∨ z ∈ l
  | [], T, h, _, _, _ => ⟨rfl, h, fun z => by simp [joinA]⟩
  | x :: l, T, h, hl, hn, hd => by
    have h2 := List.pairwise_cons.1 hl
    have hx1 := hn x (by simp)
    have hb : atB T (keyS x) = false := by
      cases hb : atB T (keyS x) with
      | false => rfl
      | true =>
        obtain ⟨y, hy, he⟩ := (atB_iff _ T h).1 hb
        exact absurd he (hd x (by simp) y hy)
    have hm := set_mem h (keyS x) (cell_nz hx1)
    rw [new_self] at hm
    have ih := joinA_ok l (setS T (keyS x) (cellK x)) (setS_rise h _ _) h2.2 (fun y hy => hn y (by simp [hy])) (fun y hy z hz => by
      rcases (hm z).1 hz with ⟨g, -⟩ | rfl
      · exact hd y (by simp [hy]) z g
      · have := h2.1 y hy; omega)
    simp only [joinA, hb, Bool.false_eq_true, if_false]
    refine ⟨ih.1, ih.2.1, fun z => ?_⟩
    rw [ih.2.2 z, hm z, List.mem_cons]
    constructor
    · rintro ((⟨g, -⟩ | g) | g)
      · exact .inl g
      · exact .inr (.inl g)
      · exact .inr (.inr g)
    · rintro (g | g | g)
      · exact .inl (.inl ⟨g, hd x (by simp) z g⟩)
      · exact .inl (.inr g)
      · exact .inr g
end Go.Proofs.Ytmkncbddjnaklaa
