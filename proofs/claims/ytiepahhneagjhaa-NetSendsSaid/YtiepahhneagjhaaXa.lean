/- Walking over the map of what was sent: how many are left; what is cut. -/
import Derived.Test.YtiepahhneagjhaaX
namespace Go.Proofs.Ytiepahhneagjhaa
open Go.RowKit
open Nat renaming reduceEqDiff → nA, reduceLT → nB, reduceLeDiff → nC, reduceAdd → nD, reduceMul → nE, reduceSub → nF, reduceBEq → nG
open Int renaming reduceToNat → iA, reduceLT → iB, reduceLE → iC, reduceEq → iD
open Bool renaming and_eq_true → bA, or_eq_true → bB, or_eq_false_iff → bC, and_eq_false_iff → bD, not_eq_true' → bE, not_eq_false' → bF, not_true → bG, not_false → bH
set_option linter.all false
set_option maxHeartbeats 4000000
attribute [local irreducible] AW Does ACall tE tS tB tZ

theorem nodup_le : ∀ {xs ys : List Nat}, xs.Nodup → (∀ b ∈ xs, b ∈ ys) → xs.length ≤ ys.length
  | [], ys, _, _ => Nat.zero_le _
  | x :: xs, ys, h, hs => by
    rw [List.nodup_cons] at h
    have h1 := nodup_le (ys := ys.erase x) h.2 (fun b hb => (List.mem_erase_of_ne (by rintro rfl; exact h.1 hb)).2 (hs b (by simp [hb])))
    rw [List.length_erase_of_mem (hs x (by simp))] at h1
    have h2 : 0 < ys.length := List.length_pos_of_mem (hs x (by simp))
    simp only [List.length_cons]; omega
/-- an iterator that has handed out k entries of l -/
structure SN (l : List (ME Int)) (k : Nat) (seen : List Nat) : Prop where
  len : seen.length = k
  nd : seen.Nodup
  sub : ∀ b ∈ seen, b ∈ l.map ME.b
theorem SN.nil (l : List (ME Int)) : SN l 0 [] := ⟨rfl, by simp, fun b h => by cases h⟩
theorem SN.next {l : List (ME Int)} {k : Nat} {seen : List Nat} (h : SN l k seen) {e : ME Int} (he : e ∈ l) (hb : ¬ e.b ∈ seen) : SN l (k + 1) (seen ++ [e.b]) :=
  ⟨by simp [h.len], List.nodup_append.2 ⟨h.nd, by simp, fun a ha b hb' => by rw [List.mem_singleton] at hb'; subst hb'; rintro rfl; exact hb ha⟩, fun b hb' => by
    rcases List.mem_append.1 hb' with g | g
    · exact h.sub b g
    · rw [List.mem_singleton] at g; subst g; exact List.mem_map_of_mem he⟩
theorem SN.more {l : List (ME Int)} {k : Nat} {seen : List Nat} (h : SN l k seen) (hk : k < l.length) (hB : (l.map ME.b).Nodup) : ¬ ∀ e ∈ l, e.b ∈ seen := fun hall => by
  have h1 : (l.map ME.b).length ≤ seen.length := nodup_le hB (fun b hb => by
    obtain ⟨e, he, rfl⟩ := List.mem_map.1 hb; exact hall e he)
  rw [List.length_map, h.len] at h1; omega
theorem SN.all {l : List (ME Int)} {seen : List Nat} (h : SN l l.length seen) (hB : (l.map ME.b).Nodup) {e : ME Int} (he : e ∈ l) : e.b ∈ seen := by
  refine Classical.byContradiction fun hc => ?_
  have h1 := nodup_le (xs := e.b :: seen) (ys := l.map ME.b) (List.nodup_cons.2 ⟨hc, h.nd⟩) (fun b hb => by
    rcases List.mem_cons.1 hb with rfl | hb
    · exact List.mem_map_of_mem he
    · exact h.sub b hb)
  rw [List.length_cons, List.length_map, h.len] at h1; omega
/-- how many of those seen are not over -/
def cntS (ov : Int → Bool) (l : List (ME Int)) (seen : List Nat) : Nat := (l.filter fun e => decide (e.b ∈ seen) && !ov e.k).length
theorem cntS_nil (ov : Int → Bool) (l : List (ME Int)) : cntS ov l [] = 0 := by
  unfold cntS; rw [List.filter_eq_nil_iff.2 (fun e _ => by simp)]; rfl
theorem cntS_next (ov : Int → Bool) : ∀ {l : List (ME Int)} {seen : List Nat} {e : ME Int}, (l.map ME.b).Nodup → e ∈ l → ¬ e.b ∈ seen → cntS ov l (seen ++ [e.b]) = cntS ov l seen + if ov e.k = true then 0 else 1
  | x :: l, seen, e, hB, he, hb => by
    rw [List.map_cons, List.nodup_cons] at hB
    unfold cntS
    by_cases hx : x = e
    · subst hx
      have h1 : l.filter (fun e => decide (e.b ∈ seen ++ [x.b]) && !ov e.k) = l.filter (fun e => decide (e.b ∈ seen) && !ov e.k) := List.filter_congr fun y hy => by
        have : ¬ y.b = x.b := fun e => hB.1 (by rw [← e]; exact List.mem_map_of_mem hy)
        simp [this]
      simp only [List.filter_cons, h1]
      cases ov x.k <;> simp [hb]
    · have he2 : e ∈ l := by rcases List.mem_cons.1 he with h | h; exact (hx h.symm).elim; exact h
      have hxb : ¬ x.b = e.b := fun h => hB.1 (by rw [h]; exact List.mem_map_of_mem he2)
      have ih := cntS_next ov hB.2 he2 hb
      unfold cntS at ih
      simp only [List.filter_cons]
      have : decide (x.b ∈ seen ++ [e.b]) = decide (x.b ∈ seen) := by simp [hxb]
      rw [this]
      split <;> simp only [List.length_cons, ih] <;> omega
theorem cntS_all {ops : List Op28} {ov : Int → Bool} {l : List (ME Int)} {c : Nat} {M : Mem} (h : SM ops l c M) {seen : List Nat} (hs : SN l l.length seen) : cntS ov l seen = (st28 ops ov).ps.length := by
  have h1 : cntS ov l seen = (l.filter fun e => !ov e.k).length := by
    unfold cntS
    congr 1
    refine List.filter_congr fun e he => ?_
    simp [hs.all h.bw.1 he]
  have h2 : l.map ME.k = (allP ops).map Pk.num := by
    apply List.ext_getElem?
    intro i
    rw [List.getElem?_map, List.getElem?_map]
    unfold allP
    rw [List.getElem?_mapIdx]
    cases hl : l[i]? with
    | none =>
      have := List.getElem?_eq_none_iff.1 hl
      have hle := h.len
      rw [List.getElem?_eq_none (by omega)]; rfl
    | some e =>
      obtain ⟨g1, s, g2, g3⟩ := h.at_ i e hl
      rw [g2]; simp [g1, mkP]
  rw [h1]
  unfold st28
  have h3 : ((l.map ME.k).filter fun k => !ov k).length = (l.filter fun e => !ov e.k).length := by rw [List.filter_map, List.length_map]; rfl
  have h4 : (((allP ops).map Pk.num).filter fun k => !ov k).length = ((allP ops).filter fun p => !ov p.num).length := by rw [List.filter_map, List.length_map]; rfl
  rw [← h3, ← h4, h2]
/-- what is over when those seen are cut -/
def ovS (ops : List Op28) (own : Int) (ov : Int → Bool) (l : List (ME Int)) (seen : List Nat) : Int → Bool := fun k => ov k || (l.any (fun e => decide (e.k = k) && decide (e.b ∈ seen)) && cnd ops own k)
theorem ovS_nil (ops : List Op28) (own : Int) (ov : Int → Bool) (l : List (ME Int)) : ovS ops own ov l [] = ov := by
  funext k; unfold ovS
  rw [show (l.any fun e => decide (e.k = k) && decide (e.b ∈ ([] : List Nat))) = false by simp]
  simp
theorem inj_b : ∀ {l : List (ME Int)}, (l.map ME.b).Nodup → ∀ x ∈ l, ∀ e ∈ l, x.b = e.b → x = e
  | y :: l, h, x, hx, e, he, hb => by
    rw [List.map_cons, List.nodup_cons] at h
    rcases List.mem_cons.1 hx with rfl | hx2 <;> rcases List.mem_cons.1 he with rfl | he2
    · rfl
    · exact (h.1 (by rw [hb]; exact List.mem_map_of_mem he2)).elim
    · exact (h.1 (by rw [← hb]; exact List.mem_map_of_mem hx2)).elim
    · exact inj_b h.2 x hx2 e he2 hb
theorem ovS_next {ops : List Op28} {own : Int} {ov : Int → Bool} {l : List (ME Int)} {seen : List Nat} {e : ME Int} (hB : (l.map ME.b).Nodup) (he : e ∈ l) : setV (ovS ops own ov l seen) e.k (ovS ops own ov l seen e.k || cnd ops own e.k) = ovS ops own ov l (seen ++ [e.b]) := by
  have inj : ∀ x ∈ l, x.b = e.b → x = e := fun x hx h => inj_b hB x hx e he h
  funext k
  unfold setV
  by_cases c : k = e.k
  · rw [if_pos c, c]
    have : l.any (fun x => decide (x.k = e.k) && decide (x.b ∈ seen ++ [e.b])) = true := List.any_eq_true.2 ⟨e, he, by simp⟩
    unfold ovS
    rw [this]
    cases ov e.k <;> cases cnd ops own e.k <;> simp
  · rw [if_neg c]
    unfold ovS
    have : l.any (fun x => decide (x.k = k) && decide (x.b ∈ seen ++ [e.b])) = l.any (fun x => decide (x.k = k) && decide (x.b ∈ seen)) := by
      rw [Bool.eq_iff_iff, List.any_eq_true, List.any_eq_true]
      constructor
      · rintro ⟨x, hx, h⟩
        simp only [Bool.and_eq_true, decide_eq_true_eq, List.mem_append, List.mem_singleton] at h
        refine ⟨x, hx, ?_⟩
        rcases h.2 with g | g
        · simp [h.1, g]
        · have := inj x hx g; subst this; exact (c h.1.symm).elim
      · rintro ⟨x, hx, h⟩
        simp only [Bool.and_eq_true, decide_eq_true_eq] at h
        exact ⟨x, hx, by simp [h.1, h.2]⟩
    rw [this]
theorem ovS_all {ops : List Op28} {own : Int} {ov : Int → Bool} {l : List (ME Int)} {c : Nat} {M : Mem} (h : SM ops l c M) {seen : List Nat} (hs : SN l l.length seen) : ovS ops own ov l seen = fun k => ov k || cnd ops own k := by
  funext k
  unfold ovS
  cases hc : cnd ops own k
  · simp
  · have hk := cnd_in hc
    have hi : (k - 1).toNat < l.length := by have := h.len; omega
    have hg := (h.at_ _ _ (List.getElem?_eq_getElem hi)).1
    have : l.any (fun e => decide (e.k = k) && decide (e.b ∈ seen)) = true := List.any_eq_true.2 ⟨l[(k - 1).toNat], List.getElem_mem hi, by
      rw [Bool.and_eq_true, decide_eq_true_eq, decide_eq_true_eq]
      exact ⟨by omega, hs.all h.bw.1 (List.getElem_mem hi)⟩⟩
    rw [this]; simp
end Go.Proofs.Ytiepahhneagjhaa
