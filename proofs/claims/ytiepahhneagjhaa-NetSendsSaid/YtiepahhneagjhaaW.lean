/- The plain law: what comes was sent; what is over. -/
import Derived.Test.YtiepahhneagjhaaS
import Derived.Test.YtiepahhneagjhaaL
import Derived.Test.YtiepahhneagjhaaM41
namespace Go.Proofs.Ytiepahhneagjhaa
open Nat renaming reduceEqDiff → nA, reduceLT → nB, reduceLeDiff → nC, reduceAdd → nD, reduceMul → nE, reduceSub → nF, reduceBEq → nG
open Int renaming reduceToNat → iA, reduceLT → iB, reduceLE → iC, reduceEq → iD
open Bool renaming and_eq_true → bA, or_eq_true → bB, or_eq_false_iff → bC, and_eq_false_iff → bD, not_eq_true' → bE, not_eq_false' → bF, not_true → bG, not_false → bH
set_option linter.all false
set_option maxHeartbeats 4000000
attribute [local irreducible] AW Does ACall tE tS tB tZ

def goodP (s : Int) (p : Pk) : Prop := p.num ≤ s ∧ nodeOk p.fr = true ∧ nodeOk p.to = true ∧ ¬ p.fr = p.to ∧ (p.bs.length : Int) ≤ 30000
theorem goP_iff {s : Int} : ∀ {l : List Pk} {a : Int}, goP s a l = true ↔ (∀ p ∈ l, a < p.num ∧ goodP s p) ∧ l.Pairwise (fun x y => x.num < y.num)
  | [], a => by simp [goP]
  | p :: r, a => by
    simp only [goP, Bool.and_eq_true, pkOk_iff, goP_iff (l := r), List.pairwise_cons, List.forall_mem_cons]
    unfold goodP
    constructor
    · rintro ⟨⟨h1, h2⟩, h3, h4⟩
      exact ⟨⟨⟨h1, h2⟩, fun q hq => ⟨by have := (h3 q hq).1; omega, (h3 q hq).2⟩⟩, fun q hq => (h3 q hq).1, h4⟩
    · rintro ⟨⟨⟨h1, h2⟩, h3⟩, h4, h5⟩
      exact ⟨⟨h1, h2⟩, fun q hq => ⟨h4 q hq, (h3 q hq).2⟩, h5⟩
theorem nOk_iff {s : Int} {l : List Pk} : nOk ⟨s, l⟩ = true ↔ s ≤ 4611686018427387904 ∧ (l.length : Int) ≤ 60 ∧ (∀ p ∈ l, 0 < p.num ∧ goodP s p) ∧ l.Pairwise (fun x y => x.num < y.num) := by
  simp only [nOk, Bool.and_eq_true, decide_eq_true_eq, goP_iff, and_assoc]
theorem nOk_sub {s : Int} {l l' : List Pk} (h : nOk ⟨s, l⟩ = true) (hl : l'.Sublist l) : nOk ⟨s, l'⟩ = true := by
  rw [nOk_iff] at h ⊢
  exact ⟨h.1, by have := hl.length_le; omega, fun p hp => h.2.2.1 p (hl.mem hp), h.2.2.2.sublist hl⟩
theorem nOk_send {s : Int} {l : List Pk} {fr to : Int} {b : List Int} (h : nOk ⟨s, l⟩ = true) (hs : sendF ⟨s, l⟩ fr to b = 0) (h0 : 0 ≤ s) : nOk (sendA ⟨s, l⟩ fr to b) = true := by
  unfold sendF at hs
  split at hs
  · omega
  rename_i c1
  split at hs
  · omega
  rename_i c2
  split at hs
  · omega
  rename_i c3
  simp only [Bool.or_eq_true, Bool.not_eq_true', decide_eq_true_eq, not_or, Bool.not_eq_false] at c1 c2 c3
  unfold sendA
  rw [nOk_iff] at h ⊢
  obtain ⟨h1, h2, h3, h4⟩ := h
  have c4 : ¬ s = 4611686018427387904 := c3.2
  have c5 : ¬ 60 ≤ (l.length : Int) := c3.1
  refine ⟨by simp only; omega, by simp; omega, fun p hp => ?_, List.pairwise_append.2 ⟨h4, by simp, fun x hx y hy => ?_⟩⟩
  · rcases List.mem_append.1 hp with hp | hp
    · obtain ⟨g1, g2, g3⟩ := h3 p hp
      exact ⟨g1, by simp only; omega, g3⟩
    · rw [List.mem_singleton] at hp; subst hp
      exact ⟨by simp only; omega, Int.le_refl _, c1.1.1, c1.1.2, c1.2, by simp only; omega⟩
  · rw [List.mem_singleton] at hy; subst hy
    have := (h3 x hx).2.1
    simp only; omega
theorem erase_filter : ∀ {l : List Pk} {i : Nat} {p : Pk}, l.Pairwise (fun x y => x.num < y.num) → l[i]? = some p → l.take i ++ l.drop (i + 1) = l.filter fun q => !decide (q.num = p.num)
  | x :: l, 0, p, h, hi => by
    rw [List.getElem?_cons_zero, Option.some.injEq] at hi; subst hi
    rw [List.pairwise_cons] at h
    have : l.filter (fun q => !decide (q.num = x.num)) = l := List.filter_eq_self.2 fun q hq => by
      have := h.1 q hq
      simp; omega
    simp [this]
  | x :: l, i + 1, p, h, hi => by
    rw [List.getElem?_cons_succ] at hi
    rw [List.pairwise_cons] at h
    have ih := erase_filter h.2 hi
    have := h.1 p (List.mem_of_getElem? hi)
    have hx : ¬ x.num = p.num := by omega
    simp [hx, ← ih]

def mkP (i : Nat) (o : Op28) : Pk := ⟨(i : Int) + 1, o.fr, o.to, o.bs.take 30001⟩
def allP (ops : List Op28) : List Pk := ops.mapIdx mkP
def st28 (ops : List Op28) (ov : Int → Bool) : Nt := ⟨(ops.length : Int), (allP ops).filter fun p => !ov p.num⟩
def setV (ov : Int → Bool) (k : Int) (b : Bool) : Int → Bool := fun x => if x = k then b else ov x
def OV (ops : List Op28) (ov : Int → Bool) : Prop := ∀ k, ov k = true → 1 ≤ k ∧ k ≤ ops.length
def cnd (ops : List Op28) (own k : Int) : Bool := decide (1 ≤ k) && match ops[(k - 1).toNat]? with | some s => decide (s.fr = own) || decide (s.to = own) | none => false
theorem mem_allP {ops : List Op28} {p : Pk} (h : p ∈ allP ops) : ∃ (i : Nat) (s : Op28), ops[i]? = some s ∧ p = mkP i s := by
  obtain ⟨i, hi, rfl⟩ := List.mem_mapIdx.1 h
  exact ⟨i, ops[i], List.getElem?_eq_getElem hi, rfl⟩
theorem OV.nil : OV [] fun _ => false := fun k h => by cases h
theorem st28_nil : st28 [] (fun _ => false) = zNt := rfl
theorem cnd_at {ops : List Op28} {own : Int} {i : Nat} {s : Op28} (h : ops[i]? = some s) : cnd ops own ((i : Int) + 1) = (decide (s.fr = own) || decide (s.to = own)) := by
  unfold cnd
  rw [show ((i : Int) + 1 - 1).toNat = i by omega, h]
  simp; intro; omega
theorem cnd_in {ops : List Op28} {own k : Int} (h : cnd ops own k = true) : 1 ≤ k ∧ k ≤ ops.length := by
  unfold cnd at h
  simp only [Bool.and_eq_true, decide_eq_true_eq] at h
  refine ⟨h.1, ?_⟩
  cases hs : ops[(k - 1).toNat]? with
  | none => rw [hs] at h; exact absurd h.2 (by simp)
  | some s => have := (List.getElem?_eq_some_iff.1 hs).1; omega
theorem st28_send {ops : List Op28} {ov : Int → Bool} (o : Op28) (h : OV ops ov) : st28 (ops ++ [o]) ov = ⟨(ops.length : Int) + 1, (st28 ops ov).ps ++ [⟨(ops.length : Int) + 1, o.fr, o.to, o.bs.take 30001⟩]⟩ := by
  have hn : ov ((ops.length : Int) + 1) = false := by
    cases c : ov ((ops.length : Int) + 1)
    · rfl
    · have := (h _ c).2; omega
  unfold st28 allP
  rw [List.mapIdx_concat, List.filter_append]
  simp [mkP, hn]
theorem OV.send {ops : List Op28} {ov : Int → Bool} (o : Op28) (h : OV ops ov) : OV (ops ++ [o]) ov := fun k hk => by
  have := h k hk; simp; omega
theorem OV.set {ops : List Op28} {ov : Int → Bool} (h : OV ops ov) {k : Int} (h1 : 1 ≤ k) (h2 : k ≤ ops.length) (b : Bool) : OV ops (setV ov k b) := fun x hx => by
  unfold setV at hx
  split at hx
  · omega
  · exact h x hx
theorem OV.cut {ops : List Op28} {ov : Int → Bool} (h : OV ops ov) (own : Int) : OV ops (fun k => ov k || cnd ops own k) := fun x hx => by
  rcases Bool.or_eq_true _ _ ▸ hx with hx | hx
  · exact h x hx
  · exact cnd_in hx
theorem st28_cut (ops : List Op28) (ov : Int → Bool) (own : Int) : st28 ops (fun k => ov k || cnd ops own k) = ⟨(ops.length : Int), (st28 ops ov).ps.filter (keepP own)⟩ := by
  unfold st28
  rw [List.filter_filter]
  congr 1
  refine List.filter_congr fun p hp => ?_
  obtain ⟨i, s, hs, rfl⟩ := mem_allP hp
  simp only [mkP, keepP, cnd_at hs]
  cases ov ((i : Int) + 1) <;> simp <;> rfl
theorem st28_set {ops : List Op28} {ov : Int → Bool} {num : Int} : st28 ops (setV ov num true) = ⟨(ops.length : Int), (st28 ops ov).ps.filter fun q => !decide (q.num = num)⟩ := by
  unfold st28
  rw [List.filter_filter]
  congr 1
  refine List.filter_congr fun p hp => ?_
  unfold setV
  by_cases c : p.num = num <;> simp [c]
theorem st28_stay {ops : List Op28} {ov : Int → Bool} {num : Int} (h : ov num = false) : st28 ops (setV ov num false) = st28 ops ov := by
  have : setV ov num false = ov := by
    funext x; unfold setV; split
    · rename_i e; rw [e, h]
    · rfl
  rw [this]
theorem come_st {ops : List Op28} {ov : Int → Bool} {num : Int} (hn : nOk (st28 ops ov) = true) (he : comeE (st28 ops ov) num = 0) (stays : Bool) :
    ∃ (i : Nat) (s : Op28), ops[i]? = some s ∧ num = (i : Int) + 1 ∧ ov num = false ∧ comeP (st28 ops ov) num = mkP i s ∧ comeS (st28 ops ov) num stays = st28 ops (setV ov num (!stays)) := by
  have hf : comeF (st28 ops ov) num = 0 := by unfold comeE at he; rw [if_pos hn] at he; exact he
  have hfnd : fnd num (st28 ops ov).ps = true := by
    unfold comeF at hf; split at hf
    · assumption
    · omega
  obtain ⟨p, hp, hpn⟩ := fnd_get hfnd
  have hm := List.mem_of_getElem? hp
  obtain ⟨hm1, hm2⟩ := List.mem_filter.1 (show p ∈ (allP ops).filter fun p => !ov p.num from hm)
  obtain ⟨i, s, hs, rfl⟩ := mem_allP hm1
  have hov : ov num = false := by rw [← hpn]; simpa using hm2
  refine ⟨i, s, hs, hpn.symm, hov, ?_, ?_⟩
  · unfold comeP; rw [if_pos he]; unfold comeQ; rw [hp]; rfl
  · unfold comeS; rw [if_pos he]; unfold comeA
    cases stays
    · have hpw := (nOk_iff.1 hn).2.2.2
      simp only [Bool.false_eq_true, if_false, Bool.not_false]
      have hef := erase_filter (l := (st28 ops ov).ps) hpw hp
      rw [hpn] at hef
      rw [st28_set, hef]
      rfl
    · simp only [if_true, Bool.not_true]
      rw [st28_stay hov]
theorem nOk_set {ops : List Op28} {ov : Int → Bool} (hn : nOk (st28 ops ov) = true) {num : Int} (h : ov num = false) (b : Bool) : nOk (st28 ops (setV ov num b)) = true := by
  cases b
  · rw [st28_stay h]; exact hn
  · rw [st28_set]; exact nOk_sub (l := (st28 ops ov).ps) hn List.filter_sublist
/-- what an op does, by kinds -/
theorem sends {ops : List Op28} {ov : Int → Bool} {o : Op28} (hn : nOk (st28 ops ov) = true) (hov : OV ops ov) (he : (run28 o (st28 ops ov)).e = 0) :
    (kind28 o < 3 ∧ run28 o (st28 ops ov) = ⟨st28 (ops ++ [o]) ov, (ops.length : Int) + 1, zPk, 0, 0⟩ ∧ OV (ops ++ [o]) ov ∧ nOk (st28 (ops ++ [o]) ov) = true) ∨
    (3 ≤ kind28 o ∧ kind28 o < 5 ∧ ∃ (i : Nat) (s : Op28), ops[i]? = some s ∧ numO o (st28 ops ov) = (i : Int) + 1 ∧ ov ((i : Int) + 1) = false ∧ run28 o (st28 ops ov) = ⟨st28 ops (setV ov ((i : Int) + 1) (!o.st)), 0, mkP i s, 0, 0⟩ ∧ OV ops (setV ov ((i : Int) + 1) (!o.st)) ∧ nOk (st28 ops (setV ov ((i : Int) + 1) (!o.st))) = true) ∨
    (kind28 o = 5 ∧ ∃ (i : Nat) (s : Op28), ops[i]? = some s ∧ numO o (st28 ops ov) = (i : Int) + 1 ∧ ov ((i : Int) + 1) = false ∧ run28 o (st28 ops ov) = ⟨st28 ops (setV ov ((i : Int) + 1) true), 0, zPk, 0, 0⟩ ∧ OV ops (setV ov ((i : Int) + 1) true) ∧ nOk (st28 ops (setV ov ((i : Int) + 1) true)) = true) ∨
    (5 < kind28 o ∧ ∃ g, run28 o (st28 ops ov) = ⟨st28 ops (fun k => ov k || cnd ops o.fr k), 0, zPk, g, 0⟩ ∧ OV ops (fun k => ov k || cnd ops o.fr k) ∧ nOk (st28 ops (fun k => ov k || cnd ops o.fr k)) = true) := by
  by_cases k3 : kind28 o < 3
  · refine .inl ⟨k3, ?_⟩
    have hr : run28 o (st28 ops ov) = ⟨sendS (st28 ops ov) o.fr o.to (o.bs.take 30001), (sendS (st28 ops ov) o.fr o.to (o.bs.take 30001)).sent, zPk, 0, sendE (st28 ops ov) o.fr o.to (o.bs.take 30001)⟩ := by unfold run28; rw [if_pos k3]
    rw [hr] at he
    simp only at he
    have hS : sendS (st28 ops ov) o.fr o.to (o.bs.take 30001) = st28 (ops ++ [o]) ov := by
      unfold sendS; rw [if_pos he, st28_send o hov]; rfl
    have hF : sendF (st28 ops ov) o.fr o.to (o.bs.take 30001) = 0 := by unfold sendE at he; rw [if_pos hn] at he; exact he
    refine ⟨?_, hov.send o, ?_⟩
    · rw [hr, hS, he]; unfold st28; simp
    · have := nOk_send (s := (ops.length : Int)) (l := (st28 ops ov).ps) hn hF (by omega)
      rw [← hS]; unfold sendS; rw [if_pos he]; exact this
  by_cases k5 : kind28 o < 5
  · refine .inr (.inl ⟨by omega, k5, ?_⟩)
    have hr : run28 o (st28 ops ov) = ⟨comeS (st28 ops ov) (numO o (st28 ops ov)) o.st, 0, comeP (st28 ops ov) (numO o (st28 ops ov)), 0, comeE (st28 ops ov) (numO o (st28 ops ov))⟩ := by unfold run28; rw [if_neg k3, if_pos k5]
    rw [hr] at he
    simp only at he
    obtain ⟨i, s, h1, h2, h3, h4, h5⟩ := come_st hn he o.st
    have hl := (List.getElem?_eq_some_iff.1 h1).1
    rw [h4, h5, he] at hr
    rw [h2] at h3 hr
    exact ⟨i, s, h1, h2, h3, hr, hov.set (by omega) (by omega) _, nOk_set hn h3 _⟩
  by_cases k6 : kind28 o = 5
  · refine .inr (.inr (.inl ⟨k6, ?_⟩))
    have hr : run28 o (st28 ops ov) = ⟨comeS (st28 ops ov) (numO o (st28 ops ov)) false, 0, zPk, 0, comeE (st28 ops ov) (numO o (st28 ops ov))⟩ := by unfold run28; rw [if_neg k3, if_neg k5, if_pos k6]
    rw [hr] at he
    simp only at he
    obtain ⟨i, s, h1, h2, h3, -, h5⟩ := come_st hn he false
    have hl := (List.getElem?_eq_some_iff.1 h1).1
    rw [h5, he] at hr
    rw [h2] at h3 hr
    exact ⟨i, s, h1, h2, h3, hr, hov.set (by omega) (by omega) _, nOk_set hn h3 _⟩
  · refine .inr (.inr (.inr ⟨by omega, cutC (st28 ops ov) o.fr, ?_⟩))
    have hr : run28 o (st28 ops ov) = ⟨cutS (st28 ops ov) o.fr, 0, zPk, cutC (st28 ops ov) o.fr, cutE (st28 ops ov) o.fr⟩ := by unfold run28; rw [if_neg k3, if_neg k5, if_neg k6]
    rw [hr] at he
    simp only at he
    have hS : cutS (st28 ops ov) o.fr = st28 ops (fun k => ov k || cnd ops o.fr k) := by
      unfold cutS; rw [if_pos he, st28_cut]; rfl
    refine ⟨by rw [hr, hS, he], hov.cut _, ?_⟩
    rw [st28_cut]
    exact nOk_sub (l := (st28 ops ov).ps) hn List.filter_sublist
end Go.Proofs.Ytiepahhneagjhaa
