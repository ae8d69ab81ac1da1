/- The plain law: barriers are told when just what came ahead of them was taken. -/
import Derived.Test.YtcmpciciodcddaaZ1
namespace Go.Proofs.Ytcmpciciodcddaa
open Nat renaming reduceEqDiff → nA, reduceLT → nB, reduceLeDiff → nC, reduceAdd → nD, reduceMul → nE, reduceSub → nF, reduceBEq → nG
open Int renaming reduceToNat → iA, reduceLT → iB, reduceLE → iC, reduceEq → iD
open Bool renaming and_eq_true → bA, or_eq_true → bB, or_eq_false_iff → bC, and_eq_false_iff → bD, not_eq_true' → bE, not_eq_false' → bF, not_true → bG, not_false → bH
set_option linter.all false
set_option maxHeartbeats 4000000
attribute [local irreducible] AW Does

/-- of one queue: what came, how many of these were taken -/
structure AQ (nu : Int) (q : Qu) (c : List El) (t : Nat) : Prop where
  b : t ≤ c.length
  e : q.el = c.drop t
  a : 0 ≤ q.la
  o : ∀ x ∈ c, elOk x = true
  h : q.he = true → 0 < t ∧ c[t - 1]? = some (barEl nu)
  d : q.en = true → t = c.length ∧ 0 < t ∧ ∃ x, c[t - 1]? = some x ∧ x.kd = 3
/-- of all -/
structure AI (g : Gt) (came : List (List El)) (took : List Nat) : Prop where
  ok : gOk g = true
  c : came.length = g.qs.length
  k : took.length = g.qs.length
  q : ∀ (j : Nat) (q : Qu) (c : List El) (t : Nat), g.qs[j]? = some q → came[j]? = some c → took[j]? = some t → AQ g.nu q c t
def lastEnd (c : List El) : Bool := match c.getLast? with | some x => decide (x.kd = 3) | none => false
def al1 (num : Int) (c : List El) (t : Nat) : Bool := (decide (t = c.length) && lastEnd c) || (decide (0 < t) && decide (c[t - 1]? = some (barEl num)))
def alS (came : List (List El)) (took : List Nat) (num : Int) : Bool := (came.zip took).all fun p => al1 num p.1 p.2
theorem AI.at {g : Gt} {came : List (List El)} {took : List Nat} (h : AI g came took) {j : Nat} {q : Qu} (hq : g.qs[j]? = some q) : ∃ c t, came[j]? = some c ∧ took[j]? = some t ∧ AQ g.nu q c t := by
  have hj := (List.getElem?_eq_some_iff.1 hq).1
  have h1 := List.getElem?_eq_getElem (l := came) (i := j) (by rw [h.c]; exact hj)
  have h2 := List.getElem?_eq_getElem (l := took) (i := j) (by rw [h.k]; exact hj)
  exact ⟨_, _, h1, h2, h.q j q _ _ hq h1 h2⟩
theorem set_of {α : Type} {l : List α} {k j : Nat} {x y : α} (h : (l.set k x)[j]? = some y) : (j = k ∧ y = x) ∨ (¬ j = k ∧ l[j]? = some y) := by
  by_cases e : j = k
  · subst e
    have hj : j < l.length := by have := (List.getElem?_eq_some_iff.1 h).1; simpa using this
    rw [List.getElem?_set_self hj] at h
    exact .inl ⟨rfl, (Option.some.inj h).symm⟩
  · rw [List.getElem?_set_ne (fun h => e h.symm)] at h
    exact .inr ⟨e, h⟩
theorem AI.start {n : Nat} (h1 : 1 ≤ n) (h4 : n ≤ 4) : AI ⟨List.replicate n ⟨[], 0, false, false⟩, 0, 0⟩ (List.replicate n []) (List.replicate n 0) := by
  refine ⟨(SI.start h1 h4).ok, by simp, by simp, fun j q c t hq hc ht => ?_⟩
  have h1 := List.eq_of_mem_replicate (List.mem_of_getElem? hq)
  have h2 := List.eq_of_mem_replicate (List.mem_of_getElem? hc)
  have h3 := List.eq_of_mem_replicate (List.mem_of_getElem? ht)
  subst h1 h2 h3
  exact ⟨by simp, by simp, by simp, by simp, fun h => by simp at h, fun h => by simp at h⟩
theorem AI.la {g : Gt} {came : List (List El)} {took : List Nat} (h : AI g came took) : ∀ q ∈ g.qs, 0 ≤ q.la := fun q hq => by
  obtain ⟨j, hj⟩ := List.getElem?_of_mem hq
  obtain ⟨c, t, _, _, ha⟩ := h.at hj
  exact ha.a
theorem AI.push {g : Gt} {came : List (List El)} {took : List Nat} (h : AI g came took) {k : Nat} {e : El} {c : List El} (hc : came[k]? = some c) (h0 : pushE g (k : Int) e = 0) : AI (pushS g (k : Int) e) (came.set k (c ++ [e])) took := by
  have hg := push_gOk h.la h0
  obtain ⟨-, -, q, hq, he, hl, h4, hs⟩ := pushE_zero h0
  rw [hs] at hg ⊢
  simp only [Int.toNat_natCast] at hg hq ⊢
  simp only [lateS, Bool.or_eq_false_iff, closedS] at hl
  refine ⟨hg, by simpa [withS] using h.c, by simpa [withS] using h.k, fun j q' c' t hq' hc' ht => ?_⟩
  rcases set_of hq' with ⟨e1, e2⟩ | ⟨e1, e2⟩
  · subst e1 e2
    rcases set_of hc' with ⟨_, f2⟩ | ⟨f1, _⟩
    · subst f2
      have ha := h.q j q c t hq hc ht
      have htl := ha.b
      have han : 0 < t → (c ++ [e])[t - 1]? = c[t - 1]? := fun hp => List.getElem?_append_left (by omega)
      refine ⟨by simp; omega, ?_, ?_, fun x hx => ?_, fun hh => ?_, fun hd => ?_⟩
      · simp only [pushQ]; rw [ha.e, List.drop_append_of_le_length htl]
      · have := ha.a; simp only [pushQ]; split <;> omega
      · rcases List.mem_append.1 hx with hx | hx
        · exact ha.o x hx
        · rcases List.mem_singleton.1 hx with rfl; exact he
      · obtain ⟨g1, g2⟩ := ha.h hh
        exact ⟨g1, by rw [han g1]; exact g2⟩
      · rw [show (pushQ q e).en = q.en from rfl, hl.1.1] at hd; cases hd
    · exact absurd rfl f1
  · rcases set_of hc' with ⟨f1, _⟩ | ⟨_, f2⟩
    · exact absurd f1 e1
    · exact h.q j q' c' t e2 f2 ht
theorem AQ.nohe {nu nu' : Int} {q : Qu} {c : List El} {t : Nat} (h : AQ nu q c t) (he : q.he = false) : AQ nu' q c t := ⟨h.b, h.e, h.a, h.o, fun hh => (by rw [he] at hh; cases hh), h.d⟩
theorem AQ.fr {nu nu' : Int} {q : Qu} {c : List El} {t : Nat} (h : AQ nu q c t) : AQ nu' (frQ q) c t := ⟨h.b, h.e, h.a, h.o, fun hh => (by cases hh), h.d⟩
theorem AQ.take {nu : Int} {q : Qu} {c : List El} {t : Nat} (h : AQ nu q c t) (he : q.he = false) (hen : q.en = false) {e : El} (hq : q.el[0]? = some e) : t < c.length ∧ c[t]? = some e ∧ AQ nu (takQ q) c (t + 1) := by
  rw [h.e] at hq
  have hct : c[t]? = some e := by simpa [List.getElem?_drop] using hq
  have ht := (List.getElem?_eq_some_iff.1 hct).1
  refine ⟨ht, hct, ⟨ht, ?_, h.a, h.o, fun hh => ?_, fun hd => ?_⟩⟩
  · simp only [takQ, h.e, List.drop_drop]
  · rw [show (takQ q).he = q.he from rfl, he] at hh; cases hh
  · rw [show (takQ q).en = q.en from rfl, hen] at hd; cases hd
theorem barEl_of {e : El} (h : elOk e = true) (h2 : e.kd = 2) : e = barEl e.n := by
  obtain ⟨a, b, c, d, f⟩ := e
  simp only at h2
  subst h2
  simp [elOk] at h
  simp [barEl, h]
/-- what may come of an element taken -/
inductive Out (g : Gt) (came : List (List El)) (took : List Nat) (e : El) : Tk → Prop
  | reco {g' : Gt} (h1 : e.kd = 1) (h : AI g' came took) (hd : g'.dn = g.dn) : Out g came took e ⟨g', e, true⟩
  | no {g' : Gt} {x : El} (h1 : ¬ e.kd = 1) (h : AI g' came took) (hd : g'.dn = g.dn) : Out g came took e ⟨g', x, false⟩
  | bar {g' : Gt} {num : Int} (h1 : ¬ e.kd = 1) (h : AI g' came took) (hd : g'.dn = num) (hn : g.dn < num) (ha : alS came took num = true) : Out g came took e ⟨g', barEl num, true⟩
  | over {g' : Gt} (h1 : ¬ e.kd = 1) (h : AI g' came took) (hd : g'.dn = g.dn) (ha : g'.qs.all Qu.en = true) (hf : fullS g'.qs = 0) : Out g came took e ⟨g', endEl, true⟩
theorem all_en_full {g : Gt} (hok : gOk g = true) (h : g.qs.all Qu.en = true) : fullS g.qs = 0 := by
  have h1 : ∀ q ∈ g.qs, q.el = [] := fun q hq => by
    have h2 := ((gOk_iff g).1 hok).1.q q hq
    rw [rightQ_iff] at h2
    exact (h2.e (List.all_eq_true.1 h q hq)).1
  generalize g.qs = L at h1
  unfold fullS
  induction L with
  | nil => rfl
  | cons x L ih =>
    have h2 := h1 x (by simp)
    have h3 := ih (fun q hq => h1 q (by simp [hq]))
    simp only [List.map_cons, List.sum_cons, h3, h2]; rfl
/-- all but that it may be -/
structure AJ (g : Gt) (came : List (List El)) (took : List Nat) : Prop where
  ok : GP g
  c : came.length = g.qs.length
  k : took.length = g.qs.length
  q : ∀ (j : Nat) (q : Qu) (c : List El) (t : Nat), g.qs[j]? = some q → came[j]? = some c → took[j]? = some t → AQ g.nu q c t
theorem AJ.told {g : Gt} {came : List (List El)} {took : List Nat} (h : AJ g came took) (g0 : Gt) (e : El) (h1 : ¬ e.kd = 1) (hd : g.dn = g0.dn) (hb : (0 < g.nu ∧ allHE g.qs = true) ∨ g.qs.all Qu.en = false ∨ g.qs.all Qu.en = true) : Out g0 came took e (toldS g) := by
  have hg := toldS_gOk h.ok
  unfold toldS at hg ⊢
  by_cases c : (decide (0 < g.nu) && allHE g.qs) = true
  · rw [if_pos c] at hg ⊢
    simp only [Bool.and_eq_true, decide_eq_true_eq] at c
    refine .bar h1 ⟨hg, by simpa using h.c, by simpa using h.k, fun j q c t hq hc ht => ?_⟩ rfl (by have := h.ok.d c.1; omega) ?_
    · simp only [List.getElem?_map] at hq
      cases hq' : g.qs[j]? with
      | none => rw [hq'] at hq; cases hq
      | some q0 =>
        rw [hq'] at hq
        simp only [Option.map_some, Option.some.injEq] at hq
        subst hq
        exact (h.q j q0 c t hq' hc ht).fr
    · unfold alS
      rw [List.all_eq_true]
      rintro ⟨c1, t1⟩ hm
      obtain ⟨j, hj⟩ := List.getElem?_of_mem hm
      rw [List.getElem?_zip_eq_some] at hj
      obtain ⟨hc, ht⟩ := hj
      have hjl : j < g.qs.length := by rw [← h.c]; exact (List.getElem?_eq_some_iff.1 hc).1
      have hq := List.getElem?_eq_getElem hjl
      have ha := h.q j _ c1 t1 hq hc ht
      have hhe := List.all_eq_true.1 c.2 _ (List.getElem_mem hjl)
      simp only [Bool.or_eq_true] at hhe
      unfold al1
      rcases hhe with hhe | hhe
      · obtain ⟨p1, p2⟩ := ha.h hhe
        simp [p1, p2]
      · obtain ⟨p1, p2, x, p3, p4⟩ := ha.d hhe
        have : lastEnd c1 = true := by
          unfold lastEnd
          rw [List.getLast?_eq_getElem?, ← p1, p3]; simp [p4]
        simp [p1, this]
  · rw [if_neg c] at hg ⊢
    have hAI : AI g came took := ⟨hg, h.c, h.k, h.q⟩
    cases ha : g.qs.all Qu.en
    · exact .no h1 hAI hd
    · rw [if_pos rfl]
      exact .over h1 hAI hd ha (all_en_full hg ha)
theorem AI.take {g : Gt} {came : List (List El)} {took : List Nat} (h : AI g came took) {k : Nat} {q : Qu} (hq : g.qs[k]? = some q) (ho : openQ q = true) :
    takE g (k : Int) = 0 ∧ ∃ c t e, came[k]? = some c ∧ took[k]? = some t ∧ c[t]? = some e ∧ Out g came (took.set k (t + 1)) e (takS g (k : Int)) := by
  have hkn : ¬ (k : Int) < 0 := by omega
  have h0 : takE g (k : Int) = 0 := by simp [takE, h.ok, hkn, hq, ho]
  have hg := take_gOk h0
  refine ⟨h0, ?_⟩
  obtain ⟨e, he⟩ := openQ_some ho
  have hs : takS g (k : Int) = takG g k q e := by unfold takS; rw [if_pos h0]; simp [hq, he]
  rw [hs] at hg ⊢
  have hok2 := (gOk_iff g).1 h.ok
  obtain ⟨t1, t2, t3, t4⟩ := takQ_ok (hok2.1.q q (List.mem_of_getElem? hq)) he
  obtain ⟨m0, m1, m2, m3⟩ := elOk_num t2
  have hhe : q.he = false := by simp [openQ] at ho; exact ho.2
  have hkl := (List.getElem?_eq_some_iff.1 hq).1
  obtain ⟨c, t, hc, ht, ha⟩ := h.at hq
  obtain ⟨htl, hct, ha2⟩ := ha.take hhe t3 he
  refine ⟨c, t, e, hc, ht, hct, ?_⟩
  have hkt : k < took.length := by rw [h.k]; exact hkl
  -- the queues behind it, with whatever there
  have key : ∀ (nu : Int) (q' : Qu) (L : List Qu), (∀ (j : Nat) (x : Qu), L[j]? = some x → (j = k ∧ x = q') ∨ (¬ j = k ∧ ∃ y, g.qs[j]? = some y ∧ ∀ c t, AQ g.nu y c t → AQ nu x c t)) → AQ nu q' c (t + 1) → ∀ (j : Nat) (q1 : Qu) (c1 : List El) (s1 : Nat), L[j]? = some q1 → came[j]? = some c1 → (took.set k (t + 1))[j]? = some s1 → AQ nu q1 c1 s1 := by
    intro nu q' L hL hA j q1 c1 s1 g1 g2 g3
    rcases hL j q1 g1 with ⟨e1, e2⟩ | ⟨e1, y, e2, e3⟩
    · subst e1 e2
      rw [hc] at g2; cases g2
      rw [List.getElem?_set_self hkt] at g3; cases g3
      exact hA
    · rw [List.getElem?_set_ne (fun h => e1 h.symm)] at g3
      exact e3 _ _ (h.q j y c1 s1 e2 g2 g3)
  unfold takG at hg ⊢
  by_cases c1 : e.kd = 1
  · rw [if_pos c1] at hg ⊢
    refine .reco c1 ⟨hg, by simpa [withS] using h.c, by simpa [withS] using h.k, ?_⟩ rfl
    refine key g.nu (takQ q) _ (fun j x hx => ?_) ha2
    rcases set_of hx with ⟨e1, e2⟩ | ⟨e1, e2⟩
    · exact .inl ⟨e1, e2⟩
    · exact .inr ⟨e1, x, e2, fun _ _ h => h⟩
  · rw [if_neg c1] at hg ⊢
    have hb : ∀ g' : Gt, (0 < g'.nu ∧ allHE g'.qs = true) ∨ g'.qs.all Qu.en = false ∨ g'.qs.all Qu.en = true := fun g' => by cases g'.qs.all Qu.en <;> simp
    by_cases c2 : e.kd = 2
    · rw [if_pos c2] at hg ⊢
      have hbe := barEl_of t2 c2
      have hw : GP (withS g k (takQ q)) := hok2.1.put hq t1 rfl
      have hB := barS_GP hw (k := k) (q := takQ q) (num := e.n) (by simp [withS, hkl]) t3 (m2 c2) m1
      have hdn : (barS (withS g k (takQ q)) k (takQ q) e.n).dn = g.dn := by unfold barS; split; rfl; split <;> rfl
      have hbl := barS_len (withS g k (takQ q)) k (takQ q) e.n
      rw [show (withS g k (takQ q)).qs.length = g.qs.length by simp [withS]] at hbl
      refine AJ.told ⟨hB, by rw [hbl]; exact h.c, by rw [hbl]; simpa using h.k, ?_⟩ g e c1 hdn (hb _)
      have hheq : ∀ nu, nu = e.n → AQ nu (heQ (takQ q)) c (t + 1) := fun nu hnu => ⟨ha2.b, ha2.e, ha2.a, ha2.o, fun _ => ⟨by omega, by simp only [Nat.add_sub_cancel]; rw [hct, hnu, ← hbe]⟩, fun hd => by rw [show (heQ (takQ q)).en = q.en from rfl, t3] at hd; cases hd⟩
      unfold barS withS
      simp only
      by_cases d1 : e.n ≤ g.dn ∨ e.n < g.nu
      · rw [if_pos d1]
        refine key g.nu (takQ q) _ (fun j x hx => ?_) ha2
        rcases set_of hx with ⟨e1, e2⟩ | ⟨e1, e2⟩
        · exact .inl ⟨e1, e2⟩
        · exact .inr ⟨e1, x, e2, fun _ _ h => h⟩
      · rw [if_neg d1]
        by_cases d2 : g.nu < e.n
        · rw [if_pos d2]
          refine key e.n (heQ (takQ q)) _ (fun j x hx => ?_) (hheq _ rfl)
          rcases set_of hx with ⟨e1, e2⟩ | ⟨e1, e2⟩
          · exact .inl ⟨e1, e2⟩
          · rw [List.getElem?_map] at e2
            cases hy : (g.qs.set k (takQ q))[j]? with
            | none => rw [hy] at e2; cases e2
            | some y =>
              rw [hy] at e2
              simp only [Option.map_some, Option.some.injEq] at e2
              subst e2
              rcases set_of hy with ⟨f1, _⟩ | ⟨_, f2⟩
              · exact absurd f1 e1
              · exact .inr ⟨e1, y, f2, fun _ _ h => h.fr⟩
        · rw [if_neg d2]
          refine key g.nu (heQ (takQ q)) _ (fun j x hx => ?_) (hheq _ (by omega))
          rcases set_of hx with ⟨e1, e2⟩ | ⟨e1, e2⟩
          · exact .inl ⟨e1, e2⟩
          · rcases set_of e2 with ⟨f1, _⟩ | ⟨_, f2⟩
            · exact absurd f1 e1
            · exact .inr ⟨e1, x, f2, fun _ _ h => h⟩
    · rw [if_neg c2] at hg ⊢
      have c3 : e.kd = 3 := by
        unfold elOk at t2
        by_cases h3 : e.kd = 3
        · exact h3
        · simp [c1, c2, h3] at t2
      have hend : t + 1 = c.length := by
        have := ha2.e
        rw [t4 c3] at this
        have h5 := List.drop_eq_nil_iff.1 this.symm
        omega
      have hqe : AQ g.nu { takQ q with en := true } c (t + 1) := ⟨ha2.b, ha2.e, ha2.a, ha2.o, fun hh => (by rw [show ({ takQ q with en := true } : Qu).he = q.he from rfl, hhe] at hh; cases hh), fun _ => ⟨hend, by omega, e, by simpa using hct, c3⟩⟩
      have hr : rightQ { takQ q with en := true } = true := by
        rw [rightQ_iff] at t1 ⊢
        exact ⟨t1.l, t1.a, fun _ => ⟨t4 c3, hhe⟩, t1.r, t1.s⟩
      refine AJ.told ⟨hok2.1.put hq hr rfl, by simpa [withS] using h.c, by simpa [withS] using h.k, ?_⟩ g e c1 rfl (hb _)
      refine key g.nu { takQ q with en := true } _ (fun j x hx => ?_) hqe
      rcases set_of hx with ⟨e1, e2⟩ | ⟨e1, e2⟩
      · exact .inl ⟨e1, e2⟩
      · exact .inr ⟨e1, x, e2, fun _ _ h => h⟩
end Go.Proofs.Ytcmpciciodcddaa
