/- The plain law: what is put into a gate that may be, or taken off it, leaves one that may be. -/
import Derived.Test.YtcmpciciodcddaaP
namespace Go.Proofs.Ytcmpciciodcddaa
open Nat renaming reduceEqDiff → nA, reduceLT → nB, reduceLeDiff → nC, reduceAdd → nD, reduceMul → nE, reduceSub → nF, reduceBEq → nG
open Int renaming reduceToNat → iA, reduceLT → iB, reduceLE → iC, reduceEq → iD
open Bool renaming and_eq_true → bA, or_eq_true → bB, or_eq_false_iff → bC, and_eq_false_iff → bD, not_eq_true' → bE, not_eq_false' → bF, not_true → bG, not_false → bH
set_option linter.all false
set_option maxHeartbeats 4000000
attribute [local irreducible] AW Does

theorem rise_app {cap n : Int} : ∀ {l : List Int} {last : Int}, rise cap last l = true → last ≤ cap → cap < n → rise n last (l ++ [n]) = true
  | [], last, h, hl, hn => by simp [rise]; omega
  | x :: l, last, h, hl, hn => by
    simp only [rise, Bool.and_eq_true, decide_eq_true_eq] at h
    simp only [List.cons_append, rise, Bool.and_eq_true, decide_eq_true_eq]
    exact ⟨⟨h.1.1, by omega⟩, rise_app h.2 h.1.2 hn⟩
theorem rise_low {cap : Int} {l : List Int} {last last' : Int} (h : rise cap last l = true) (hl : last' ≤ last) : rise cap last' l = true := by
  cases l with
  | nil => rfl
  | cons x l =>
    simp only [rise, Bool.and_eq_true, decide_eq_true_eq] at h ⊢
    exact ⟨⟨by omega, h.1.2⟩, h.2⟩
theorem bars_app (l : List El) (e : El) : bars (l ++ [e]) = if e.kd = 2 then bars l ++ [e.n] else bars l := by
  unfold bars
  by_cases h : e.kd = 2 <;> simp [h]
theorem rowS_app {l : List El} {e : El} (h : rowS l = true) (he : elOk e = true) (hn : endsS l = false) : rowS (l ++ [e]) = true := by
  simp only [rowS, Bool.and_eq_true, List.all_append, List.dropLast_concat, List.all_cons, List.all_nil, Bool.and_true] at h ⊢
  refine ⟨⟨h.1, he⟩, ?_⟩
  rw [List.all_eq_true]
  intro x hx
  obtain ⟨j, hj⟩ := List.getElem?_of_mem hx
  have hjl := (List.getElem?_eq_some_iff.1 hj).1
  by_cases c : j + 1 = l.length
  · rw [endsS_get c.symm hj] at hn
    simpa using hn
  · refine List.all_eq_true.1 h.2 x ?_
    rw [List.dropLast_eq_take]
    exact List.mem_of_getElem? (i := j) (by rw [List.getElem?_take, if_pos (by omega)]; exact hj)
theorem elOk_num {e : El} (h : elOk e = true) : 0 ≤ e.n ∧ e.n ≤ 4611686018427387904 ∧ (e.kd = 2 → 1 ≤ e.n) ∧ (¬ e.kd = 2 → e.n = 0) := by
  unfold elOk at h
  by_cases h1 : e.kd = 1
  · simp [h1] at h; exact ⟨by omega, by omega, fun h2 => by omega, fun _ => h.2⟩
  · by_cases h2 : e.kd = 2
    · simp [h2, numOk] at h; exact ⟨by omega, by omega, fun _ => by omega, fun h3 => absurd h2 h3⟩
    · by_cases h3 : e.kd = 3
      · simp [h3] at h; exact ⟨by omega, by omega, fun h4 => by omega, fun _ => h.2⟩
      · simp [h1, h2, h3] at h
structure RQu (q : Qu) : Prop where
  l : q.el.length ≤ 4
  a : q.la ≤ 4611686018427387904
  e : q.en = true → q.el = [] ∧ q.he = false
  r : rowS q.el = true
  s : rise q.la 0 (bars q.el) = true
theorem rightQ_iff (q : Qu) : rightQ q = true ↔ RQu q := by
  unfold rightQ
  constructor
  · intro h
    simp only [Bool.and_eq_true, decide_eq_true_eq, Bool.not_eq_true'] at h
    obtain ⟨⟨⟨⟨h1, h2⟩, h3⟩, h4⟩, h5⟩ := h
    refine ⟨by omega, h2, fun he => ?_, h4, h5⟩
    rw [he, Bool.true_and, Bool.or_eq_false_iff] at h3
    exact ⟨List.eq_nil_of_length_eq_zero (by have := of_decide_eq_false h3.1; omega), h3.2⟩
  · rintro ⟨h1, h2, h3, h4, h5⟩
    simp only [Bool.and_eq_true, decide_eq_true_eq, Bool.not_eq_true']
    refine ⟨⟨⟨⟨by omega, h2⟩, ?_⟩, h4⟩, h5⟩
    cases he : q.en
    · rfl
    · obtain ⟨h6, h7⟩ := h3 he
      simp [h6, h7]
theorem pushQ_ok {q : Qu} {e : El} (h : rightQ q = true) (hla : 0 ≤ q.la) (he : elOk e = true) (hl : lateS q e = false) (h4 : ¬ q.el.length = 4) : rightQ (pushQ q e) = true := by
  rw [rightQ_iff] at h ⊢
  simp only [lateS, Bool.or_eq_false_iff, closedS] at hl
  obtain ⟨⟨hen, hend⟩, hk⟩ := hl
  obtain ⟨n0, n1, n2, n3⟩ := elOk_num he
  refine ⟨by simp [pushQ]; have := h.l; omega, ?_, fun h2 => ?_, rowS_app h.r he hend, ?_⟩
  · have := h.a
    simp only [pushQ]; split <;> omega
  · rw [show (pushQ q e).en = q.en from rfl, hen] at h2; cases h2
  · simp only [pushQ, bars_app]
    by_cases hb : e.kd = 2
    · rw [if_pos hb]
      have hlt : q.la < e.n := by simpa [hb] using hk
      rw [if_pos hlt]
      exact rise_app h.s hla hlt
    · rw [if_neg hb, if_neg (by have := n3 hb; omega)]
      exact h.s
theorem rowS_tail {e : El} {r : List El} (h : rowS (e :: r) = true) : rowS r = true ∧ elOk e = true ∧ (e.kd = 3 → r = []) := by
  refine ⟨rowS_ok fun j x hx => ?_, ?_, fun h3 => ?_⟩
  · have hx' : (e :: r)[j + 1]? = some x := by simpa using hx
    refine ⟨?_, fun hj h3 => ?_⟩
    · cases ho : elOk x
      · rw [rowS_bad hx' ho] at h; cases h
      · rfl
    · rw [rowS_end hx' (by simp; omega) h3] at h; cases h
  · cases ho : elOk e
    · rw [rowS_bad (k := 0) (l := e :: r) rfl ho] at h; cases h
    · rfl
  · cases r with
    | nil => rfl
    | cons y r => rw [rowS_end (k := 0) (l := e :: y :: r) rfl (by simp) h3] at h; cases h
theorem rise_tail {cap : Int} {e : El} {r : List El} (h : rise cap 0 (bars (e :: r)) = true) : rise cap 0 (bars r) = true := by
  rw [bars_cons] at h
  split at h
  · simp only [rise, Bool.and_eq_true, decide_eq_true_eq] at h
    exact rise_low h.2 (by omega)
  · exact h
theorem takQ_ok {q : Qu} {e : El} (h : rightQ q = true) (he : q.el[0]? = some e) : rightQ (takQ q) = true ∧ elOk e = true ∧ q.en = false ∧ (e.kd = 3 → (takQ q).el = []) := by
  rw [rightQ_iff] at h ⊢
  obtain ⟨el, la, hd, en⟩ := q
  cases el with
  | nil => cases he
  | cons x r =>
    simp only [List.getElem?_cons_zero, Option.some.injEq] at he
    subst he
    obtain ⟨h1, h2, h3, h4, h5⟩ := h
    simp only at h1 h2 h3 h4 h5
    obtain ⟨t1, t2, t3⟩ := rowS_tail h4
    have hen : en = false := by
      cases en
      · rfl
      · have := (h3 rfl).1; cases this
    refine ⟨⟨?_, h2, fun hx => ?_, t1, rise_tail h5⟩, t2, hen, t3⟩
    · simp [takQ] at h1 ⊢; omega
    · rw [show (takQ ⟨x :: r, la, hd, en⟩).en = en from rfl, hen] at hx; cases hx
theorem frQ_ok {q : Qu} (h : rightQ q = true) : rightQ (frQ q) = true := by
  rw [rightQ_iff] at h ⊢
  exact ⟨h.l, h.a, fun he => ⟨(h.e he).1, rfl⟩, h.r, h.s⟩
theorem heQ_ok {q : Qu} (h : rightQ q = true) (hen : q.en = false) : rightQ (heQ q) = true := by
  rw [rightQ_iff] at h ⊢
  exact ⟨h.l, h.a, fun he => (by rw [show (heQ q).en = q.en from rfl, hen] at he; cases he), h.r, h.s⟩
/-- a gate that may be, but for a barrier that all have brought -/
structure GP (g : Gt) : Prop where
  n : 1 ≤ g.qs.length ∧ g.qs.length ≤ 16
  u : g.nu ≤ 4611686018427387904 ∧ g.dn ≤ 4611686018427387904
  q : ∀ q ∈ g.qs, rightQ q = true
  s : g.qs.any Qu.he = decide (0 < g.nu)
  d : 0 < g.nu → g.dn < g.nu
theorem gOk_iff (g : Gt) : gOk g = true ↔ GP g ∧ (0 < g.nu → allHE g.qs = false) := by
  unfold gOk gA
  constructor
  · intro h
    simp only [Bool.and_eq_true, decide_eq_true_eq, beq_iff_eq, List.all_eq_true, Bool.or_eq_true, Bool.not_eq_true'] at h
    obtain ⟨⟨⟨⟨⟨⟨h1, h2⟩, h3⟩, h4⟩, h5⟩, h6⟩, h7⟩ := h
    have key : 0 < g.nu → allHE g.qs = false ∧ g.dn < g.nu := fun hp => by
      rcases h7 with h7 | h7
      · rw [h6] at h7; simp at h7; omega
      · exact h7
    exact ⟨⟨⟨by omega, by omega⟩, ⟨h3, h4⟩, h5, h6, fun hp => (key hp).2⟩, fun hp => (key hp).1⟩
  · rintro ⟨⟨⟨h1, h2⟩, ⟨h3, h4⟩, h5, h6, h7⟩, h8⟩
    simp only [Bool.and_eq_true, decide_eq_true_eq, beq_iff_eq, List.all_eq_true, Bool.or_eq_true, Bool.not_eq_true']
    refine ⟨⟨⟨⟨⟨⟨by omega, by omega⟩, h3⟩, h4⟩, h5⟩, h6⟩, ?_⟩
    by_cases hp : 0 < g.nu
    · exact .inr ⟨h8 hp, h7 hp⟩
    · left; rw [h6]; simp; omega
theorem any_set {p : Qu → Bool} : ∀ {l : List Qu} {k : Nat} {q q' : Qu}, l[k]? = some q → p q' = p q → (l.set k q').any p = l.any p
  | [], k, q, q', h, _ => by cases k <;> cases h
  | x :: l, 0, q, q', h, hp => by simp only [List.getElem?_cons_zero, Option.some.injEq] at h; subst h; simp [hp]
  | x :: l, k + 1, q, q', h, hp => by simp only [List.getElem?_cons_succ] at h; simp [any_set h hp]
theorem all_set {p : Qu → Bool} : ∀ {l : List Qu} {k : Nat} {q q' : Qu}, l[k]? = some q → p q' = p q → (l.set k q').all p = l.all p
  | [], k, q, q', h, _ => by cases k <;> cases h
  | x :: l, 0, q, q', h, hp => by simp only [List.getElem?_cons_zero, Option.some.injEq] at h; subst h; simp [hp]
  | x :: l, k + 1, q, q', h, hp => by simp only [List.getElem?_cons_succ] at h; simp [all_set h hp]
theorem mem_set {l : List Qu} {k : Nat} {q x : Qu} (P : Qu → Prop) (h : ∀ x ∈ l, P x) (hq : P q) (hx : x ∈ l.set k q) : P x := by
  rcases List.mem_or_eq_of_mem_set hx with hx | rfl
  · exact h x hx
  · exact hq
theorem GP.put {g : Gt} (h : GP g) {k : Nat} {q q' : Qu} (hk : g.qs[k]? = some q) (hq : rightQ q' = true) (he : q'.he = q.he) : GP (withS g k q') := by
  refine ⟨by simpa [withS] using h.n, h.u, fun x hx => mem_set (fun q => rightQ q = true) h.q hq hx, ?_, h.d⟩
  rw [show (withS g k q').qs = g.qs.set k q' from rfl, any_set hk he]; exact h.s
theorem pushE_zero {g : Gt} {n : Int} {e : El} (h : pushE g n e = 0) : gOk g = true ∧ 0 ≤ n ∧ ∃ q, g.qs[n.toNat]? = some q ∧ elOk e = true ∧ lateS q e = false ∧ ¬ q.el.length = 4 ∧ pushS g n e = withS g n.toNat (pushQ q e) := by
  have h0 := h
  unfold pushE at h
  split at h
  · rename_i hok
    split at h
    · cases h
    · rename_i hn
      cases hq : g.qs[n.toNat]? with
      | none => rw [hq] at h; cases h
      | some q =>
        rw [hq] at h
        simp only at h
        split at h
        · rename_i he
          split at h
          · cases h
          · rename_i hl
            split at h
            · cases h
            · rename_i h4
              refine ⟨hok, by omega, q, rfl, he, by simpa using hl, h4, ?_⟩
              unfold pushS; rw [if_pos h0, hq]
        · cases h
  · cases h
theorem push_gOk {g : Gt} {n : Int} {e : El} (hla : ∀ q ∈ g.qs, 0 ≤ q.la) (h : pushE g n e = 0) : gOk (pushS g n e) = true := by
  obtain ⟨hok, -, q, hq, he, hl, h4, hs⟩ := pushE_zero h
  rw [hs]
  have hok2 := hok
  rw [gOk_iff] at hok ⊢
  have hm := List.mem_of_getElem? hq
  refine ⟨hok.1.put hq (pushQ_ok (hok.1.q q hm) (hla q hm) he hl h4) rfl, fun hp => ?_⟩
  have := hok.2 hp
  unfold allHE at this ⊢
  rw [show (withS g n.toNat (pushQ q e)).qs = g.qs.set n.toNat (pushQ q e) from rfl, all_set (p := fun q => q.he || q.en) (q' := pushQ q e) hq rfl]
  exact this
theorem toldS_gOk {g : Gt} (h : GP g) : gOk (toldS g).g = true := by
  rw [gOk_iff]
  unfold toldS
  by_cases c : (decide (0 < g.nu) && allHE g.qs) = true
  · rw [if_pos c]
    refine ⟨⟨by simpa using h.n, ⟨by simp, h.u.1⟩, fun q hq => ?_, ?_, fun hp => by simp at hp⟩, fun hp => by simp at hp⟩
    · obtain ⟨x, hx, rfl⟩ := List.mem_map.1 hq
      exact frQ_ok (h.q x hx)
    · simp [frQ]
  · rw [if_neg c]
    refine ⟨h, fun hp => ?_⟩
    simpa [hp] using c
theorem barS_GP {g : Gt} (h : GP g) {k : Nat} {q : Qu} (hk : g.qs[k]? = some q) (hen : q.en = false) {num : Int} (h1 : 1 ≤ num) (h2 : num ≤ 4611686018427387904) : GP (barS g k q num) := by
  have hkl := (List.getElem?_eq_some_iff.1 hk).1
  have hq := h.q q (List.mem_of_getElem? hk)
  unfold barS
  by_cases c1 : num ≤ g.dn ∨ num < g.nu
  · rw [if_pos c1]; exact h
  · rw [if_neg c1]
    by_cases c2 : g.nu < num
    · rw [if_pos c2]
      refine ⟨by simpa using h.n, ⟨h2, h.u.2⟩, fun x hx => mem_set (fun q => rightQ q = true) (fun x hx => by obtain ⟨y, hy, rfl⟩ := List.mem_map.1 hx; exact frQ_ok (h.q y hy)) (heQ_ok hq hen) hx, ?_, fun _ => by simp only; omega⟩
      rw [show decide (0 < num) = true from decide_eq_true (by omega)]
      exact List.any_eq_true.2 ⟨heQ q, List.mem_of_getElem? (i := k) (by simp [hkl]), rfl⟩
    · rw [if_neg c2]
      refine ⟨by simpa using h.n, h.u, fun x hx => mem_set (fun q => rightQ q = true) h.q (heQ_ok hq hen) hx, ?_, fun _ => by simp only; omega⟩
      rw [show decide (0 < g.nu) = true from decide_eq_true (by omega)]
      exact List.any_eq_true.2 ⟨heQ q, List.mem_of_getElem? (i := k) (by simp [hkl]), rfl⟩
theorem takE_zero {g : Gt} {n : Int} (h : takE g n = 0) : gOk g = true ∧ 0 ≤ n ∧ ∃ q e, g.qs[n.toNat]? = some q ∧ openQ q = true ∧ q.el[0]? = some e ∧ takS g n = takG g n.toNat q e := by
  have h0 := h
  unfold takE at h
  split at h
  · rename_i hok
    split at h
    · cases h
    · rename_i hn
      cases hq : g.qs[n.toNat]? with
      | none => rw [hq] at h; cases h
      | some q =>
        rw [hq] at h
        simp only at h
        split at h
        · rename_i ho
          obtain ⟨e, he⟩ := openQ_some ho
          exact ⟨hok, by omega, q, e, rfl, ho, he, by unfold takS; rw [if_pos h0, hq]; simp [he]⟩
        · cases h
  · cases h
theorem take_gOk {g : Gt} {n : Int} (h : takE g n = 0) : gOk (takS g n).g = true := by
  obtain ⟨hok, -, q, e, hq, ho, he, hs⟩ := takE_zero h
  rw [hs]
  have hok2 := (gOk_iff g).1 hok
  have hm := List.mem_of_getElem? hq
  have hkl := (List.getElem?_eq_some_iff.1 hq).1
  obtain ⟨t1, t2, t3, t4⟩ := takQ_ok (hok2.1.q q hm) he
  obtain ⟨m0, m1, m2, m3⟩ := elOk_num t2
  have hw : GP (withS g n.toNat (takQ q)) := hok2.1.put hq t1 rfl
  unfold takG
  by_cases c1 : e.kd = 1
  · rw [if_pos c1, gOk_iff]
    refine ⟨hw, fun hp => ?_⟩
    have := hok2.2 hp
    unfold allHE at this ⊢
    rw [show (withS g n.toNat (takQ q)).qs = g.qs.set n.toNat (takQ q) from rfl, all_set (p := fun q => q.he || q.en) (q' := takQ q) hq rfl]
    exact this
  · rw [if_neg c1]
    by_cases c2 : e.kd = 2
    · rw [if_pos c2]
      exact toldS_gOk (barS_GP hw (k := n.toNat) (q := takQ q) (by simp [withS, hkl]) t3 (m2 c2) m1)
    · rw [if_neg c2]
      have c3 : e.kd = 3 := by
        unfold elOk at t2
        by_cases h3 : e.kd = 3
        · exact h3
        · simp [c1, c2, h3] at t2
      refine toldS_gOk (hok2.1.put hq ?_ rfl)
      rw [rightQ_iff] at t1 ⊢
      have hhe : q.he = false := by simp [openQ] at ho; exact ho.2
      exact ⟨t1.l, t1.a, fun _ => ⟨t4 c3, hhe⟩, t1.r, t1.s⟩
end Go.Proofs.Ytcmpciciodcddaa
