/- The plain law: a gate drained. -/
import Derived.Test.YtcmpciciodcddaaZ0
import Derived.Test.YtcmpciciodcddaaT
import Derived.Test.YtcmpciciodcddaaY0
namespace Go.Proofs.Ytcmpciciodcddaa
open Nat renaming reduceEqDiff → nA, reduceLT → nB, reduceLeDiff → nC, reduceAdd → nD, reduceMul → nE, reduceSub → nF, reduceBEq → nG
open Int renaming reduceToNat → iA, reduceLT → iB, reduceLE → iC, reduceEq → iD
open Bool renaming and_eq_true → bA, or_eq_true → bB, or_eq_false_iff → bC, and_eq_false_iff → bD, not_eq_true' → bE, not_eq_false' → bF, not_true → bG, not_false → bH
set_option linter.all false
set_option maxHeartbeats 4000000
attribute [local irreducible] AW Does

def recK (k : Nat) : El := ⟨1, 0, (k : Int), 0, 0⟩
theorem endsS_rep (m k : Nat) : endsS (List.replicate m (recK k)) = false := by
  unfold endsS
  cases m with
  | zero => rfl
  | succ m => rw [List.getLast?_replicate]; simp [recK]
theorem recK_ok {k : Nat} (h : k < 32) : elOk (recK k) = true := by
  have : (k : Int) < 32 := by omega
  simp [elOk, recK, recOk, this]
theorem push_at {g : Gt} {k : Nat} {q : Qu} {e : El} (hok : gOk g = true) (hk : g.qs[k]? = some q) (he : elOk e = true) (hl : lateS q e = false) (h4 : ¬ q.el.length = 4) : pushE g (k : Int) e = 0 ∧ pushS g (k : Int) e = withS g k (pushQ q e) := by
  have h0 : pushE g (k : Int) e = 0 := by
    have hkn : ¬ (k : Int) < 0 := by omega
    simp [pushE, hok, hkn, hk, he, hl, h4]
  refine ⟨h0, ?_⟩
  unfold pushS; rw [if_pos h0]; simp [hk]
/-- so far: k queues whole, m records in the next one -/
structure SI (n k m : Nat) (g : Gt) : Prop where
  ok : gOk g = true
  l : g.qs.length = n
  u : g.nu = 0 ∧ g.dn = 0
  a : ∀ j, j < k → ∃ r, g.qs[j]? = some ⟨List.replicate r (recK j) ++ [barEl 5], 5, false, false⟩
  c : k < n → g.qs[k]? = some ⟨List.replicate m (recK k), 0, false, false⟩
  b : ∀ j, k < j → j < n → g.qs[j]? = some ⟨[], 0, false, false⟩
theorem SI.la {n k m : Nat} {g : Gt} (h : SI n k m g) : ∀ q ∈ g.qs, 0 ≤ q.la := fun q hq => by
  obtain ⟨j, hj⟩ := List.getElem?_of_mem hq
  have hjn : j < n := by rw [← h.l]; exact (List.getElem?_eq_some_iff.1 hj).1
  rcases Nat.lt_trichotomy j k with h1 | h1 | h1
  · obtain ⟨r, h2⟩ := h.a j h1
    rw [hj] at h2; cases h2; simp
  · subst h1
    have h2 := h.c hjn
    rw [hj] at h2; cases h2; simp
  · have h2 := h.b j h1 hjn
    rw [hj] at h2; cases h2; simp
theorem SI.step {n k m : Nat} {g : Gt} (h : SI n k m g) (hk : k < n) (hn : n ≤ 4) (hm : m ≤ 2) : pushE g (k : Int) (recK k) = 0 ∧ SI n k (m + 1) (pushS g (k : Int) (recK k)) := by
  have hc := h.c hk
  obtain ⟨h0, h1⟩ := push_at (e := recK k) h.ok hc (recK_ok (by omega)) (by unfold lateS closedS; rw [endsS_rep]; rfl) (by simp; omega)
  have hg := push_gOk h.la h0
  have hq : pushQ ⟨List.replicate m (recK k), 0, false, false⟩ (recK k) = ⟨List.replicate (m + 1) (recK k), 0, false, false⟩ := by
    simp [pushQ, List.replicate_succ']; simp [recK]
  rw [h1, hq] at hg ⊢
  have hkl : k < g.qs.length := by rw [h.l]; exact hk
  refine ⟨h0, hg, by simpa [withS] using h.l, h.u, fun j hj => ?_, fun _ => ?_, fun j h1 h2 => ?_⟩
  · obtain ⟨r, h2⟩ := h.a j hj
    exact ⟨r, by simp only [withS]; rw [List.getElem?_set_ne (by omega)]; exact h2⟩
  · simp only [withS]; rw [List.getElem?_set_self hkl]
  · simp only [withS]; rw [List.getElem?_set_ne (by omega)]; exact h.b j h1 h2
theorem SI.bar {n k m : Nat} {g : Gt} (h : SI n k m g) (hk : k < n) (hn : n ≤ 4) (hm : m ≤ 2) : pushE g (k : Int) (barEl 5) = 0 ∧ SI n (k + 1) 0 (pushS g (k : Int) (barEl 5)) := by
  have hc := h.c hk
  obtain ⟨h0, h1⟩ := push_at (e := barEl 5) h.ok hc (by decide) (by unfold lateS closedS; rw [endsS_rep]; rfl) (by simp; omega)
  have hg := push_gOk h.la h0
  have hq : pushQ ⟨List.replicate m (recK k), 0, false, false⟩ (barEl 5) = ⟨List.replicate m (recK k) ++ [barEl 5], 5, false, false⟩ := by
    simp [pushQ, barEl]
  rw [h1, hq] at hg ⊢
  have hkl : k < g.qs.length := by rw [h.l]; exact hk
  refine ⟨h0, hg, by simpa [withS] using h.l, h.u, fun j hj => ?_, fun hk2 => ?_, fun j h1 h2 => ?_⟩
  · by_cases e : j = k
    · subst e
      exact ⟨m, by simp only [withS]; rw [List.getElem?_set_self hkl]⟩
    · obtain ⟨r, h2⟩ := h.a j (by omega)
      exact ⟨r, by simp only [withS]; rw [List.getElem?_set_ne (by omega)]; exact h2⟩
  · simp only [withS]; rw [List.getElem?_set_ne (by omega)]; exact h.b (k + 1) (by omega) hk2
  · simp only [withS]; rw [List.getElem?_set_ne (by omega)]; exact h.b j (by omega) h2
theorem SI.start {n : Nat} (h1 : 1 ≤ n) (h4 : n ≤ 4) : SI n 0 0 ⟨List.replicate n ⟨[], 0, false, false⟩, 0, 0⟩ := by
  refine ⟨?_, by simp, ⟨rfl, rfl⟩, fun j hj => by omega, fun hk => by simp [List.getElem?_replicate, hk], fun j _ hj => by simp [List.getElem?_replicate, hj]⟩
  rw [gOk_iff]
  refine ⟨⟨by simp; omega, by simp, fun q hq => ?_, ?_, fun hp => by simp at hp⟩, fun hp => by simp at hp⟩
  · rw [List.eq_of_mem_replicate hq]; decide
  · simp
/-- a queue that is drained -/
structure DQ (q : Qu) : Prop where
  e : q.en = false
  s : (q.he = false ∧ ∃ l, q.el = l ++ [barEl 5] ∧ ∀ x ∈ l, x.kd = 1) ∨ (q.he = true ∧ q.el = [])
structure DA (g : Gt) : Prop where
  ok : gOk g = true
  q : ∀ q ∈ g.qs, DQ q
  u : g.nu = 0 ∨ g.nu = 5
  d : g.dn = 0
structure DB (g : Gt) : Prop where
  ok : gOk g = true
  q : ∀ q ∈ g.qs, q.el = [] ∧ q.he = false
  u : g.nu = 0
  d : g.dn = 5
theorem SI.done {n : Nat} {g : Gt} (h : SI n n 0 g) : DA g := ⟨h.ok, fun q hq => by
  obtain ⟨j, hj⟩ := List.getElem?_of_mem hq
  have hjn : j < n := by rw [← h.l]; exact (List.getElem?_eq_some_iff.1 hj).1
  obtain ⟨r, h2⟩ := h.a j hjn
  rw [hj] at h2; cases h2
  exact ⟨rfl, .inl ⟨rfl, _, rfl, fun x hx => by rw [List.eq_of_mem_replicate hx]; rfl⟩⟩, .inl h.u.1, h.u.2⟩
theorem fullS_set : ∀ {l : List Qu} {k : Nat} {q : Qu} (q' : Qu), l[k]? = some q → fullS (l.set k q') = fullS l - q.el.length + q'.el.length
  | [], k, q, q', h => by cases k <;> cases h
  | x :: l, 0, q, q', h => by
    simp only [List.getElem?_cons_zero, Option.some.injEq] at h; subst h
    simp only [fullS, List.set_cons_zero, List.map_cons, List.sum_cons]; omega
  | x :: l, k + 1, q, q', h => by
    simp only [List.getElem?_cons_succ] at h
    have := fullS_set q' h
    simp only [fullS, List.set_cons_succ, List.map_cons, List.sum_cons] at this ⊢; omega
theorem fullS_fr (l : List Qu) : fullS (l.map frQ) = fullS l := by
  unfold fullS; rw [List.map_map]; rfl
theorem fr_id {l : List Qu} (h : l.any Qu.he = false) : l.map frQ = l := by
  rw [List.map_congr_left (g := id) (fun q hq => ?_)]
  · simp
  · have h1 : q.he = false := by
      have := List.any_eq_false.1 h q hq; simpa using this
    obtain ⟨a, b, c, d⟩ := q
    simp only at h1; subst h1; rfl
theorem opK_mem {l : List Qu} {k x : Nat} (h : x ∈ opK l k) : ∃ q, l[x]? = some q ∧ openQ q = true := by
  unfold opK at h
  rw [List.mem_filter] at h
  obtain ⟨_, h2⟩ := h
  cases hq : l[x]? with
  | none => rw [hq] at h2; cases h2
  | some q => rw [hq] at h2; exact ⟨q, rfl, h2⟩
theorem opK_of {l : List Qu} {q : Qu} (hq : q ∈ l) (ho : openQ q = true) : opK l l.length ≠ [] := fun h => by
  rw [opK_nil h hq] at ho; cases ho
theorem DQ.op {q : Qu} (h : DQ q) (he : q.he = false) : openQ q = true := by
  rcases h.s with ⟨_, l, h2, _⟩ | ⟨h1, _⟩
  · simp [openQ, he, h2]
  · rw [he] at h1; cases h1
theorem DA.open {g : Gt} (h : DA g) : ∃ q ∈ g.qs, openQ q = true := by
  obtain ⟨hp, ha⟩ := (gOk_iff g).1 h.ok
  by_cases c : 0 < g.nu
  · have h1 := ha c
    unfold allHE at h1
    obtain ⟨q, hq, h2⟩ := List.all_eq_false.1 h1
    simp only [Bool.or_eq_true, not_or, Bool.not_eq_true] at h2
    exact ⟨q, hq, (h.q q hq).op h2.1⟩
  · have h1 := hp.s
    rw [show decide (0 < g.nu) = false from decide_eq_false c] at h1
    have h2 : 0 < g.qs.length := by have := hp.n; omega
    have hm := List.getElem_mem h2
    refine ⟨_, hm, (h.q _ hm).op ?_⟩
    have := List.any_eq_false.1 h1 _ hm; simpa using this
theorem DA.pos {g : Gt} (h : DA g) : 0 < fullS g.qs := by
  obtain ⟨q, hq, ho⟩ := h.open
  obtain ⟨k, hk⟩ := List.getElem?_of_mem hq
  have h1 := fullS_set (l := g.qs) (k := k) ⟨[], 0, false, false⟩ hk
  have h2 : 0 ≤ fullS (g.qs.set k ⟨[], 0, false, false⟩) := by
    unfold fullS
    generalize (g.qs.set k ⟨[], 0, false, false⟩) = L
    induction L with
    | nil => simp
    | cons x L ih => simp only [List.map_cons, List.sum_cons]; omega
  have h3 : 0 < q.el.length := by simp [openQ] at ho; omega
  simp at h1
  omega
theorem DB.open {g : Gt} (h : DB g) : opK g.qs g.qs.length = [] := by
  unfold opK
  rw [List.filter_eq_nil_iff]
  intro x hx
  cases hq : g.qs[x]? with
  | none => simp
  | some q => simp [openQ, (h.q q (List.mem_of_getElem? hq)).1]
theorem DB.full {g : Gt} (h : DB g) : fullS g.qs = 0 := by
  have := h.q
  generalize g.qs = L at this
  unfold fullS
  induction L with
  | nil => rfl
  | cons x L ih =>
    have h1 := (this x (by simp)).1
    have h2 := ih (fun q hq => this q (by simp [hq]))
    simp only [List.map_cons, List.sum_cons, h2, h1]; rfl
theorem DA.step {g : Gt} {k : Nat} {q : Qu} (h : DA g) (hk : g.qs[k]? = some q) (ho : openQ q = true) :
    takE g (k : Int) = 0 ∧ fullS (takS g (k : Int)).g.qs = fullS g.qs - 1 ∧ ((DA (takS g (k : Int)).g ∧ ((takS g (k : Int)).b && decide ((takS g (k : Int)).e.kd = 2)) = false) ∨ (DB (takS g (k : Int)).g ∧ (takS g (k : Int)).b = true ∧ (takS g (k : Int)).e = barEl 5)) := by
  have hkn : ¬ (k : Int) < 0 := by omega
  have h0 : takE g (k : Int) = 0 := by simp [takE, h.ok, hkn, hk, ho]
  have hg := take_gOk h0
  refine ⟨h0, ?_⟩
  obtain ⟨e, he⟩ := openQ_some ho
  have hs : takS g (k : Int) = takG g k q e := by unfold takS; rw [if_pos h0]; simp [hk, he]
  rw [hs] at hg ⊢
  have hd := h.q q (List.mem_of_getElem? hk)
  have hhe : q.he = false := by simp [openQ] at ho; exact ho.2
  rcases hd.s with ⟨_, l, hl, hl2⟩ | ⟨h1, _⟩
  rotate_left
  · rw [hhe] at h1; cases h1
  have hkl := (List.getElem?_eq_some_iff.1 hk).1
  cases l with
  | cons x l =>
    rw [hl] at he
    simp only [List.cons_append, List.getElem?_cons_zero, Option.some.injEq] at he
    subst he
    have hT : takG g k q x = ⟨withS g k (takQ q), x, true⟩ := by unfold takG; rw [if_pos (hl2 x (by simp))]
    rw [hT] at hg ⊢
    refine ⟨?_, .inl ⟨⟨hg, fun y hy => ?_, h.u, h.d⟩, by simp [hl2 x (by simp)]⟩⟩
    · simp only [withS]
      rw [fullS_set _ hk]
      simp [takQ, hl]; omega
    · rcases List.mem_or_eq_of_mem_set hy with hy | rfl
      · exact h.q y hy
      · exact ⟨hd.e, .inl ⟨hhe, l, by simp [takQ, hl], fun z hz => hl2 z (by simp [hz])⟩⟩
  | nil =>
    rw [hl] at he
    simp only [List.nil_append, List.getElem?_cons_zero, Option.some.injEq] at he
    subst he
    have hT : takG g k q (barEl 5) = toldS ⟨g.qs.set k ⟨[], q.la, true, q.en⟩, 5, 0⟩ := by
      have hq : heQ (takQ q) = ⟨[], q.la, true, q.en⟩ := by simp [heQ, takQ, hl]
      have htf : frQ (takQ q) = takQ q := by
        obtain ⟨a, b, c, d⟩ := q
        simp only at hhe; subst hhe; rfl
      unfold takG
      rw [if_neg (by simp [barEl]), if_pos (by simp [barEl])]
      congr 1
      unfold barS withS
      simp only [barEl, h.d]
      rw [if_neg (by have := h.u; omega)]
      by_cases c : g.nu < 5
      · rw [if_pos c]
        have hz : g.nu = 0 := by have := h.u; omega
        have hany := ((gOk_iff g).1 h.ok).1.s
        rw [hz] at hany
        rw [List.map_set, fr_id hany, htf, List.set_set, hq]
      · rw [if_neg c, List.set_set, hq]
        have : g.nu = 5 := by have := h.u; omega
        rw [this]
    rw [hT] at hg ⊢
    have hfull : fullS (g.qs.set k ⟨[], q.la, true, q.en⟩) = fullS g.qs - 1 := by
      rw [fullS_set _ hk]; simp [hl]
    have hDQ : ∀ y ∈ g.qs.set k ⟨[], q.la, true, q.en⟩, DQ y := fun y hy => by
      rcases List.mem_or_eq_of_mem_set hy with hy | rfl
      · exact h.q y hy
      · exact ⟨hd.e, .inr ⟨rfl, rfl⟩⟩
    unfold toldS at hg ⊢
    by_cases c : allHE (g.qs.set k ⟨[], q.la, true, q.en⟩) = true
    · simp only [c] at hg ⊢
      rw [if_pos (by simp)] at hg ⊢
      refine ⟨by show fullS ((g.qs.set k _).map frQ) = _; rw [fullS_fr]; exact hfull, .inr ⟨⟨hg, fun y hy => ?_, rfl, rfl⟩, rfl, rfl⟩⟩
      obtain ⟨z, hz, rfl⟩ := List.mem_map.1 hy
      have h1 := List.all_eq_true.1 c z hz
      have h2 := hDQ z hz
      rcases h2.s with ⟨h3, _⟩ | ⟨_, h3⟩
      · rw [h3, h2.e] at h1; cases h1
      · exact ⟨h3, rfl⟩
    · simp only [Bool.not_eq_true] at c
      simp only [c, Bool.and_false, Bool.false_eq_true, if_false] at hg ⊢
      have hen : (g.qs.set k ⟨[], q.la, true, q.en⟩).all Qu.en = false := by
        refine List.all_eq_false.2 ⟨⟨[], q.la, true, q.en⟩, List.mem_of_getElem? (i := k) (by simp [hkl]), ?_⟩
        simp [hd.e]
      refine ⟨hfull, .inl ⟨⟨hg, hDQ, .inr rfl, rfl⟩, by rw [hen]; rfl⟩⟩
end Go.Proofs.Ytcmpciciodcddaa
