/- Plain law of TxlogGrows. -/
import Derived.Test.YtdeckjoeggmagaaW
namespace Go.Proofs.Ytdeckjoeggmagaa
open Go.RowKit
open Nat renaming reduceEqDiff → nA, reduceLT → nB, reduceLeDiff → nC, reduceAdd → nD, reduceMul → nE, reduceSub → nF, reduceBEq → nG
open Int renaming reduceToNat → iA, reduceLT → iB, reduceLE → iC, reduceEq → iD
open Bool renaming and_eq_true → bA, or_eq_true → bB, or_eq_false_iff → bC, and_eq_false_iff → bD, not_eq_true' → bE, not_eq_false' → bF, not_true → bG, not_false → bH
set_option linter.all false
set_option maxHeartbeats 4000000
attribute [local irreducible] AW Does ACall tE tS tB tZ

def upW (W : Nm → List Rec) (v : Nm) (r : List Rec) : Nm → List Rec := fun n => if n = v then r else W n
theorem upW_same (W : Nm → List Rec) (v : Nm) (r : List Rec) : upW W v r v = r := by unfold upW; rw [if_pos rfl]
theorem upW_ne {W : Nm → List Rec} {v n : Nm} {r : List Rec} (h : n ≠ v) : upW W v r n = W n := by unfold upW; rw [if_neg h]
theorem flatMap_up {W : Nm → List Rec} {v : Nm} {r : List Rec} : ∀ {d : List Nm}, ¬ v ∈ d → d.flatMap (upW W v r) = d.flatMap W
  | [], _ => rfl
  | x :: d, h => by
    simp only [List.mem_cons, not_or] at h
    rw [List.flatMap_cons, List.flatMap_cons, flatMap_up h.2, upW_ne (fun e => h.1 e.symm)]
structure GInv (l : Lg) (W : Nm → List Rec) : Prop where
  ok : LOk l
  tx : ∀ x ∈ l.txs, W x.nm = x.rs
  log : l.done.flatMap W = l.log
theorem GInv.zero (W : Nm → List Rec) : GInv zeroL W := ⟨zeroL_ok, (fun x hx => by cases hx), rfl⟩
def newW (o : Op16) (W : Nm → List Rec) : Nm → List Rec := if kdS o < 2 then upW W o.nm [] else if kdS o < 4 then upW W o.nm (W o.nm ++ o.recs.take 401) else W
theorem grow_com1 {l : Lg} {W : Nm → List Rec} (h : LW l) (ht : ∀ x ∈ l.txs, W x.nm = x.rs) (hl : l.done.flatMap W = l.log) (v : Nm) :
    (∀ x ∈ (com1 l v).txs, W x.nm = x.rs) ∧ (com1 l v).done.flatMap W = (com1 l v).log ∧ l.log <+: (com1 l v).log ∧ l.done <+: (com1 l v).done := by
  cases hb : atB l.txs v
  · rw [com1_no hb]; exact ⟨ht, hl, List.prefix_refl _, List.prefix_refl _⟩
  · obtain ⟨x, hx, hxv⟩ := at_true hb
    rw [com1_yes hb hx]
    refine ⟨fun y hy => ht y ?_, ?_, List.prefix_append _ _, List.prefix_append _ _⟩
    · rcases List.mem_append.1 hy with hy | hy
      · exact List.mem_of_mem_take hy
      · exact List.mem_of_mem_drop hy
    · simp only [List.flatMap_append, List.flatMap_cons, List.flatMap_nil, List.append_nil]
      rw [hl, ← hxv, ht x (List.mem_of_getElem? hx)]
theorem grow_commit {W : Nm → List Rec} : ∀ (ns : List Nm) {l : Lg}, LW l → (∀ x ∈ l.txs, W x.nm = x.rs) → l.done.flatMap W = l.log →
    (∀ x ∈ (commitL l ns).txs, W x.nm = x.rs) ∧ (commitL l ns).done.flatMap W = (commitL l ns).log ∧ l.log <+: (commitL l ns).log ∧ l.done <+: (commitL l ns).done
  | [], l, _, ht, hl => ⟨ht, hl, List.prefix_refl _, List.prefix_refl _⟩
  | v :: ns, l, h, ht, hl => by
    obtain ⟨a1, a2, a3, a4⟩ := grow_com1 h ht hl v
    obtain ⟨b1, b2, b3, b4⟩ := grow_commit ns (h.com1 v) a1 a2
    exact ⟨b1, b2, a3.trans b3, a4.trans b4⟩
theorem grow_step {l : Lg} {W : Nm → List Rec} (h : GInv l W) (o : Op16) (he : (runR l o).2.2 = 0) : GInv (runR l o).1 (newW o W) ∧ l.log <+: (runR l o).1.log ∧ l.done <+: (runR l o).1.done := by
  have hN := run_ok h.ok o he
  obtain ⟨hok, htx, hlog⟩ := h
  unfold newW
  unfold runR at he hN ⊢
  by_cases c1 : kdS o < 2
  · rw [if_pos c1] at he hN ⊢
    rw [if_pos c1]
    simp only at he hN ⊢
    obtain ⟨-, -, h3, h4⟩ := wRes_zero he
    unfold openR at hN ⊢
    rw [h4] at hN ⊢
    have hb : atB l.txs o.nm = false := by
      cases hB : atB l.txs o.nm
      · rfl
      · unfold openE at h3; rw [hB] at h3; simp at h3
    have hd : ¬ o.nm ∈ l.done := fun hd => by unfold openE at h3; rw [hb, if_pos hd] at h3; simp at h3
    have hnm := (atB_not hok.rise).1 hb
    refine ⟨⟨hN, fun x hx => ?_, ?_⟩, List.prefix_refl _, List.prefix_refl _⟩
    · have hx2 : x = ⟨o.nm, 1, []⟩ ∨ x ∈ l.txs := by
        simp only [openL, List.mem_append, List.mem_singleton] at hx
        rcases hx with (hx | hx) | hx
        · exact .inr (List.mem_of_mem_take hx)
        · exact .inl hx
        · exact .inr (List.mem_of_mem_drop hx)
      rcases hx2 with rfl | hx2
      · exact upW_same _ _ _
      · rw [upW_ne (fun e => hnm (by rw [← e]; exact List.mem_map_of_mem hx2))]; exact htx x hx2
    · show l.done.flatMap _ = l.log
      rw [flatMap_up hd, hlog]
  rw [if_neg c1] at he hN ⊢
  rw [if_neg c1]
  by_cases c2 : kdS o < 4
  · rw [if_pos c2] at he hN ⊢
    rw [if_pos c2]
    simp only at he hN ⊢
    obtain ⟨-, -, h3, h4⟩ := wRes_zero he
    unfold writeR at hN ⊢
    rw [h4] at hN ⊢
    generalize o.recs.take 401 = more at *
    have hb : atB l.txs o.nm = true := by
      cases hB : atB l.txs o.nm
      · unfold writeE at h3; rw [hB] at h3; simp at h3
      · rfl
    obtain ⟨x, hx, hxv⟩ := at_true hb
    have hxm := List.mem_of_getElem? hx
    have hi := (List.getElem?_eq_some_iff.1 hx).1
    have hd : ¬ o.nm ∈ l.done := by rw [← hxv]; exact hok.sep x hxm
    refine ⟨⟨hN, fun y hy => ?_, ?_⟩, List.prefix_refl _, List.prefix_refl _⟩
    · unfold writeL at hy hN
      rw [txAt_some hx] at hy hN
      simp only at hy
      have hin : ({ x with rs := x.rs ++ more } : Tx) ∈ l.txs.set (atI l.txs o.nm) { x with rs := x.rs ++ more } := List.mem_set hi _
      by_cases e : y.nm = o.nm
      · have := rise_uniq hN.rise hy hin (e.trans hxv.symm)
        rw [this]
        simp only
        rw [hxv, upW_same, ← hxv, htx x hxm]
      · rw [upW_ne e]
        rcases List.mem_or_eq_of_mem_set hy with hy | rfl
        · exact htx y hy
        · exact absurd hxv e
    · show l.done.flatMap _ = l.log
      rw [flatMap_up hd, hlog]
  rw [if_neg c2] at he hN ⊢
  rw [if_neg c2]
  by_cases c3 : kdS o < 6
  · rw [if_pos c3] at he hN ⊢
    simp only at he hN ⊢
    obtain ⟨-, -, h3, h4⟩ := wRes_zero he
    unfold readyR at hN ⊢
    rw [h4] at hN ⊢
    have hb : atB l.txs o.nm = true := by
      cases hB : atB l.txs o.nm
      · unfold readyE at h3; rw [hB] at h3; simp at h3
      · rfl
    obtain ⟨x, hx, hxv⟩ := at_true hb
    have hxm := List.mem_of_getElem? hx
    have hi := (List.getElem?_eq_some_iff.1 hx).1
    refine ⟨⟨hN, fun y hy => ?_, hlog⟩, List.prefix_refl _, List.prefix_refl _⟩
    unfold readyL at hy hN
    rw [txAt_some hx] at hy hN
    simp only at hy
    rcases List.mem_or_eq_of_mem_set hy with hy | rfl
    · exact htx y hy
    · exact htx x hxm
  rw [if_neg c3] at he hN ⊢
  by_cases c4 : kdS o < 8
  · rw [if_pos c4] at he hN ⊢
    simp only at he hN ⊢
    obtain ⟨-, -, h3, h4⟩ := wRes_zero he
    unfold commitR at hN ⊢
    rw [h4] at hN ⊢
    obtain ⟨b1, b2, b3, b4⟩ := grow_commit (o.names.take 30) hok.lw htx hlog
    exact ⟨⟨hN, b1, b2⟩, b3, b4⟩
  · rw [if_neg c4] at he hN ⊢
    unfold abortR at he hN ⊢
    simp only at he hN ⊢
    obtain ⟨-, -, h3, h4⟩ := wRes_zero he
    rw [h4] at hN ⊢
    exact ⟨⟨hN, fun x hx => htx x (List.mem_filter.1 hx).1, hlog⟩, List.prefix_refl _, List.prefix_refl _⟩
theorem state_done {n : Lg} (h : LOk n) {v : Nm} (hv : v ∈ n.done) : stateS n v = 3 := by
  have hnot : ¬ v ∈ n.txs.map Tx.nm := fun hm => by
    obtain ⟨x, hx, e⟩ := List.mem_map.1 hm
    exact h.sep x hx (by rw [e]; exact hv)
  unfold stateS; rw [stT_none hnot]; simp only; rw [if_pos hv]
theorem vals_len (l : List Rec) (key : Rec) : (valsS l key).length = (l.filter fun r => decide (cmpR r key = 0)).length := by
  unfold valsS; rw [List.length_map]
end Go.Proofs.Ytdeckjoeggmagaa
