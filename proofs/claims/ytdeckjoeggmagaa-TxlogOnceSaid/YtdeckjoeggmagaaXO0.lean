/- Plain law of TxlogOnce. -/
import Derived.Test.YtdeckjoeggmagaaW
namespace Go.Proofs.Ytdeckjoeggmagaa
open Go.RowKit
open Nat renaming reduceEqDiff → nA, reduceLT → nB, reduceLeDiff → nC, reduceAdd → nD, reduceMul → nE, reduceSub → nF, reduceBEq → nG
open Int renaming reduceToNat → iA, reduceLT → iB, reduceLE → iC, reduceEq → iD
open Bool renaming and_eq_true → bA, or_eq_true → bB, or_eq_false_iff → bC, and_eq_false_iff → bD, not_eq_true' → bE, not_eq_false' → bF, not_true → bG, not_false → bH
set_option linter.all false
set_option maxHeartbeats 4000000
attribute [local irreducible] AW Does ACall tE tS tB tZ

theorem com1_txs {l : Lg} {w : Nm} (h : LW l) {v : Nm} (hv : v ≠ w) : v ∈ (com1 l w).txs.map Tx.nm ↔ v ∈ l.txs.map Tx.nm := by
  cases hb : atB l.txs w
  · rw [com1_no hb]
  · obtain ⟨x, hx, hxw⟩ := at_true hb
    rw [com1_yes hb hx]
    have hs := take_drop1 hx
    generalize atI l.txs w = i at *
    simp only
    conv => rhs; rw [hs]
    simp only [List.map_append, List.map_cons, List.mem_append, List.mem_cons]
    constructor
    · rintro (h | h)
      · exact .inl h
      · exact .inr (.inr h)
    · rintro (h | h | h)
      · exact .inl h
      · exact absurd (h.trans hxw) hv
      · exact .inr h
theorem com1_done {l : Lg} {w v : Nm} (h : v ∈ l.done) : v ∈ (com1 l w).done := by
  unfold com1; split
  · simp [h]
  · exact h
theorem com1_self {l : Lg} {w : Nm} (h : LW l) (hw : w ∈ l.done ∨ w ∈ l.txs.map Tx.nm) : w ∈ (com1 l w).done := by
  rcases hw with hw | hw
  · exact com1_done hw
  · have hb := (atB_iff h.rise).2 hw
    unfold com1; rw [hb]; simp
theorem com1_either {l : Lg} {w v : Nm} (h : LW l) (hv : v ∈ l.done ∨ v ∈ l.txs.map Tx.nm) : v ∈ (com1 l w).done ∨ v ∈ (com1 l w).txs.map Tx.nm := by
  by_cases e : v = w
  · subst e; exact .inl (com1_self h hv)
  · rcases hv with hv | hv
    · exact .inl (com1_done hv)
    · exact .inr ((com1_txs h e).2 hv)
theorem commit_done {v : Nm} : ∀ (ns : List Nm) (l : Lg), v ∈ l.done → v ∈ (commitL l ns).done
  | [], l, h => h
  | w :: ns, l, h => commit_done ns (com1 l w) (com1_done h)
theorem commit_all : ∀ (ns : List Nm) (l : Lg), LW l → (∀ v ∈ ns, v ∈ l.done ∨ v ∈ l.txs.map Tx.nm) → ∀ v ∈ ns, v ∈ (commitL l ns).done
  | [], l, _, _, v, hv => by cases hv
  | w :: ns, l, hl, h, v, hv => by
    rcases List.mem_cons.1 hv with rfl | hv
    · exact commit_done ns _ (com1_self hl (h v (by simp)))
    · exact commit_all ns (com1 l w) (hl.com1 w) (fun u hu => com1_either hl (h u (by simp [hu]))) v hv
theorem firstE_zero {l : Lg} {all : List Nm} : ∀ {ns : List Nm}, firstE l all ns = 0 → ∀ v ∈ ns, v ∈ l.done ∨ stopsE l.txs v all = 0
  | [], _, v, hv => by cases hv
  | w :: ns, h, v, hv => by
    unfold firstE at h
    by_cases hd : w ∈ l.done
    · rw [if_pos hd] at h
      rcases List.mem_cons.1 hv with rfl | hv
      · exact .inl hd
      · exact firstE_zero h v hv
    · rw [if_neg hd] at h
      by_cases hs : stopsE l.txs w all = 0
      · rw [if_pos hs] at h
        rcases List.mem_cons.1 hv with rfl | hv
        · exact .inr hs
        · exact firstE_zero h v hv
      · rw [if_neg hs] at h; exact absurd h hs
theorem firstE_done {l : Lg} {all : List Nm} : ∀ {ns : List Nm}, (∀ v ∈ ns, v ∈ l.done) → firstE l all ns = 0
  | [], _ => rfl
  | w :: ns, h => by
    unfold firstE
    rw [if_pos (h w (by simp))]
    exact firstE_done (fun v hv => h v (by simp [hv]))
theorem stopsE_at {a : List Tx} {v : Nm} {all : List Nm} (h : stopsE a v all = 0) : atB a v = true := by
  cases hb : atB a v
  · unfold stopsE at h; rw [hb] at h; simp at h
  · rfl
theorem commit_no {l : Lg} : ∀ (ns : List Nm), (∀ v ∈ ns, atB l.txs v = false) → commitL l ns = l
  | [], _ => rfl
  | w :: ns, h => by
    show commitL (com1 l w) ns = l
    rw [com1_no (h w (by simp))]
    exact commit_no ns (fun v hv => h v (by simp [hv]))
/-- what a commit that is done leaves -/
structure Onced (n : Lg) (ns : List Nm) : Prop where
  ok : LOk n
  again : commitR n ns = (n, 0)
  all : ∀ v ∈ ns, v ∈ n.done
  nmok : ns.all nmOk = true
theorem once_of {n : Lg} {ns : List Nm} (h : LOk n) (hr : riseN none ns = true) (hns : ns.all nmOk = true) (hall : ∀ v ∈ ns, v ∈ n.done) : Onced n ns := by
  have hat : ∀ v ∈ ns, atB n.txs v = false := fun v hv => (atB_not h.rise).2 fun hm => by
    obtain ⟨x, hx, e⟩ := List.mem_map.1 hm
    exact h.sep x hx (by rw [e]; exact hall v hv)
  refine ⟨h, ?_, hall, hns⟩
  unfold commitR
  have hc := commit_no ns hat
  have hE : commitE n ns = 0 := by
    unfold commitE
    have hd := h.d300
    rw [hr, firstE_done hall, hc, if_neg (by decide), if_neg (fun c => c rfl), if_neg (by omega)]
  rw [wRes_ok ((lgOk_iff n).2 h) hns, hE, hc]; rfl
theorem commit_once {l : Lg} (h : LOk l) {ns : List Nm} (he : (commitR l ns).2 = 0) : Onced (commitR l ns).1 ns := by
  obtain ⟨h1, h2, h3, h4⟩ := wRes_zero he
  obtain ⟨c1, c2, c3⟩ := commitE_zero h3
  have e : (commitR l ns).1 = commitL l ns := h4
  rw [e]
  have hN := (h.lw.commitL ns).ok c3
  refine once_of hN c1 h2 (commit_all ns l h.lw fun v hv => ?_)
  rcases firstE_zero c2 v hv with hd | hs
  · exact .inl hd
  · exact .inr ((atB_iff h.rise).1 (stopsE_at hs))
theorem Onced.abort {n : Lg} {ns : List Nm} (h : Onced n ns) (hr : riseN none ns = true) : Onced ⟨[], n.done, n.log⟩ ns := by
  have h0 := h.ok
  have hz := h0.size
  refine once_of ⟨by simp, h0.d300, by unfold sizeS at hz ⊢; simp only [sumT]; omega, h0.log, by simp, List.Pairwise.nil, h0.dn, h0.nd, by simp⟩ hr h.nmok h.all
theorem abort_nil (n : Lg) (h : LOk n) : abortR n [] = (⟨[], n.done, n.log⟩, (n.txs.length : Int), 0) := by
  have e : abortL n [] = ⟨[], n.done, n.log⟩ := by
    unfold abortL
    have : n.txs.filter (kept []) = [] := List.filter_eq_nil_iff.2 (fun x _ => by simp [kept])
    rw [this]
  unfold abortR
  have hok := (lgOk_iff n).2 h
  rw [e, wRes_ok hok rfl]
  simp [hok]
theorem Onced.facts {n : Lg} {ns : List Nm} (h : Onced n ns) {v : Nm} (hv : v ∈ ns) : stateS n v = 3 ∧ (openR n v).2 = 5 ∧ (writeR n v []).2 = 4 := by
  have hd := h.all v hv
  have hnot : ¬ v ∈ n.txs.map Tx.nm := fun hm => by
    obtain ⟨x, hx, e⟩ := List.mem_map.1 hm
    exact h.ok.sep x hx (by rw [e]; exact hd)
  have hat := (atB_not h.ok.rise).2 hnot
  have hok := (lgOk_iff n).2 h.ok
  have hnv : [v].all nmOk = true := by simpa using h.ok.dn v hd
  refine ⟨?_, ?_, ?_⟩
  · unfold stateS; rw [stT_none hnot]; simp only; rw [if_pos hd]
  · unfold openR openE
    rw [hat, if_neg (by decide), if_pos hd, wRes_ok hok hnv]; rfl
  · unfold writeR writeE
    rw [hat, if_pos rfl, wRes_ok hok hnv]; rfl
theorem commitR_bad {l : Lg} {ns : List Nm} (h : ¬ (commitR l ns).2 = 0) : (commitR l ns).1 = zeroL := wRes_not h
theorem commitR_rise {l : Lg} {ns : List Nm} (h : (commitR l ns).2 = 0) : riseN none ns = true := (commitE_zero (wRes_zero h).2.2.1).1
end Go.Proofs.Ytdeckjoeggmagaa
