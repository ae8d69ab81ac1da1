/- Plain law: an op leaves a log that may be. -/
import Derived.Test.YtdeckjoeggmagaaV
namespace Go.Proofs.Ytdeckjoeggmagaa
open Go.RowKit
open Nat renaming reduceEqDiff → nA, reduceLT → nB, reduceLeDiff → nC, reduceAdd → nD, reduceMul → nE, reduceSub → nF, reduceBEq → nG
open Int renaming reduceToNat → iA, reduceLT → iB, reduceLE → iC, reduceEq → iD
open Bool renaming and_eq_true → bA, or_eq_true → bB, or_eq_false_iff → bC, and_eq_false_iff → bD, not_eq_true' → bE, not_eq_false' → bF, not_true → bG, not_false → bH
set_option linter.all false
set_option maxHeartbeats 4000000
attribute [local irreducible] AW Does ACall tE tS tB tZ

theorem wRes_zero {l l' : Lg} {ns : List Nm} {e : Int} (h : (wRes l ns e l').2 = 0) : lgOk l = true ∧ ns.all nmOk = true ∧ e = 0 ∧ (wRes l ns e l').1 = l' := by
  unfold wRes at h ⊢
  cases h1 : lgOk l
  · rw [h1] at h; simp at h
  · cases h2 : ns.all nmOk
    · rw [h1, h2] at h; simp at h
    · by_cases h3 : e = 0
      · exact ⟨rfl, rfl, h3, by simp [h3]⟩
      · rw [h1, h2] at h; simp [h3] at h
theorem wRes_ok {l l' : Lg} {ns : List Nm} (h1 : lgOk l = true) (h2 : ns.all nmOk = true) {e : Int} : wRes l ns e l' = if e = 0 then (l', 0) else (zeroL, e) := by
  unfold wRes; rw [h1, h2]; simp
theorem rise_map {l : List Tx} : RiseT l ↔ (l.map Tx.nm).Pairwise fun a b => cmpN a b < 0 := by
  unfold RiseT; rw [List.pairwise_map]
theorem sumT_set : ∀ {l : List Tx} {i : Nat} {x x' : Tx}, l[i]? = some x → sumT (l.set i x') + x.rs.length = sumT l + x'.rs.length
  | [], i, x, x', h => by simp at h
  | y :: l, 0, x, x', h => by simp at h; subst h; simp only [List.set_cons_zero, sumT]; omega
  | y :: l, i + 1, x, x', h => by
    simp only [List.getElem?_cons_succ] at h
    have := sumT_set (x' := x') h
    simp only [List.set_cons_succ, sumT]; omega
theorem LOk.setT {l : Lg} (h : LOk l) {i : Nat} {x x' : Tx} (hx : l.txs[i]? = some x) (hn : x'.nm = x.nm) (hs : x'.st = 1 ∨ x'.st = 2) (hr : ∀ r ∈ x'.rs, recOk r = true) (hz : sizeS { l with txs := l.txs.set i x' } ≤ 400) : LOk { l with txs := l.txs.set i x' } := by
  have hi := (List.getElem?_eq_some_iff.1 hx).1
  have hxm := List.mem_of_getElem? hx
  have hmap : (l.txs.set i x').map Tx.nm = l.txs.map Tx.nm := by
    rw [List.map_set, hn]
    apply List.ext_getElem?
    intro j
    rw [List.getElem?_set]
    split
    · rename_i e; subst e
      rw [List.getElem?_map, hx]
      simp [hi]
    · rfl
  have hmem : ∀ z ∈ l.txs.set i x', z = x' ∨ z ∈ l.txs := fun z hz => by
    rcases List.mem_or_eq_of_mem_set hz with h | h
    · exact .inr h
    · exact .inl h
  refine ⟨by simpa using h.t24, h.d300, hz, h.log, fun z hz => ?_, ?_, h.dn, h.nd, fun z hz => ?_⟩
  · rcases hmem z hz with rfl | hz
    · exact ⟨by rw [hn]; exact (h.txs x hxm).1, hs, hr⟩
    · exact h.txs z hz
  · rw [rise_map]; simp only; rw [hmap, ← rise_map]; exact h.rise
  · rcases hmem z hz with rfl | hz
    · rw [hn]; exact h.sep x hxm
    · exact h.sep z hz
theorem LOk.openL {l : Lg} (h : LOk l) {v : Nm} (hv : nmOk v = true) (he : openE l v = 0) : LOk (openL l v) := by
  unfold openE at he
  have hb : atB l.txs v = false := by
    cases hB : atB l.txs v
    · rfl
    · rw [hB] at he; simp at he
  rw [hb] at he
  simp only [Bool.false_eq_true, if_false] at he
  have hd : ¬ v ∈ l.done := fun hd => by rw [if_pos hd] at he; omega
  rw [if_neg hd] at he
  have h24 : ¬ l.txs.length = 24 := fun hd => by rw [if_pos hd] at he; omega
  have hnm := (atB_not h.rise).1 hb
  have hts := h.t24
  have hsz := h.size
  have hsplit : l.txs = l.txs.take (atI l.txs v) ++ l.txs.drop (atI l.txs v) := (List.take_append_drop _ _).symm
  have hmem : ∀ z ∈ l.txs.take (atI l.txs v) ++ [⟨v, 1, []⟩] ++ l.txs.drop (atI l.txs v), z = ⟨v, 1, []⟩ ∨ z ∈ l.txs := fun z hz => by
    simp only [List.mem_append, List.mem_singleton] at hz
    rcases hz with (hz | hz) | hz
    · exact .inr (List.mem_of_mem_take hz)
    · exact .inl hz
    · exact .inr (List.mem_of_mem_drop hz)
  refine ⟨?_, h.d300, ?_, h.log, fun z hz => ?_, ?_, h.dn, h.nd, fun z hz => ?_⟩
  · simp only [Go.Proofs.Ytdeckjoeggmagaa.openL, List.length_append, List.length_cons, List.length_nil, List.length_take, List.length_drop]; omega
  · unfold sizeS at hsz ⊢
    rw [hsplit] at hsz
    simp only [Go.Proofs.Ytdeckjoeggmagaa.openL, sumT_app, sumT, List.length_nil] at hsz ⊢
    omega
  · rcases hmem z hz with rfl | hz
    · exact ⟨hv, .inl rfl, by simp⟩
    · exact h.txs z hz
  · have hr := h.rise
    unfold RiseT at hr ⊢
    simp only [Go.Proofs.Ytdeckjoeggmagaa.openL]
    rw [List.pairwise_append, List.pairwise_append]
    have hr2 := hr
    rw [hsplit, List.pairwise_append] at hr2
    refine ⟨⟨hr2.1, by simp, fun x hx y hy => ?_⟩, hr2.2.1, fun x hx y hy => ?_⟩
    · simp only [List.mem_singleton] at hy; subst hy
      obtain ⟨j, hj⟩ := List.mem_iff_getElem?.1 hx
      rw [List.getElem?_take] at hj
      split at hj
      · rename_i c; exact at_before c hj
      · cases hj
    · obtain ⟨j, hj⟩ := List.mem_iff_getElem?.1 hy
      rw [List.getElem?_drop] at hj
      rcases List.mem_append.1 hx with hx | hx
      · exact hr2.2.2 x hx y hy
      · simp only [List.mem_singleton] at hx; subst hx
        have h1 := at_behind (v := v) h.rise (by omega) hj
        exact cmpN_tot h1 (fun e => hnm (by have e2 : y.nm = v := e; rw [← e2]; exact List.mem_map_of_mem (List.mem_of_getElem? hj)))
  · rcases hmem z hz with rfl | hz
    · exact hd
    · exact h.sep z hz
theorem txAt_some {l : List Tx} {v : Nm} {x : Tx} (h : l[atI l v]? = some x) : txAt l v = x := by unfold txAt; rw [h]; rfl
theorem LOk.readyL {l : Lg} (h : LOk l) {v : Nm} (he : readyE l v = 0) : LOk (readyL l v) := by
  unfold readyE at he
  have hb : atB l.txs v = true := by
    cases hB : atB l.txs v
    · rw [hB] at he; simp at he
    · rfl
  obtain ⟨x, hx, -⟩ := at_true hb
  unfold Go.Proofs.Ytdeckjoeggmagaa.readyL
  rw [txAt_some hx]
  refine h.setT hx rfl (.inr rfl) (h.txs x (List.mem_of_getElem? hx)).2.2 ?_
  have := sumT_set (x' := { x with st := 2 }) hx
  have hz := h.size
  unfold sizeS at hz ⊢
  simp only at this ⊢
  omega
theorem LOk.writeL {l : Lg} (h : LOk l) {v : Nm} {more : List Rec} (he : writeE l v more = 0) : LOk (writeL l v more) := by
  unfold writeE at he
  have hb : atB l.txs v = true := by
    cases hB : atB l.txs v
    · rw [hB] at he; simp at he
    · rfl
  obtain ⟨x, hx, -⟩ := at_true hb
  rw [hb, txAt_some hx] at he
  simp only [Bool.true_eq_false, if_false] at he
  have h1 : ¬ x.st = 2 := fun c => by rw [if_pos c] at he; omega
  rw [if_neg h1] at he
  have h2 : ¬ (more.any fun r => !recOk r) = true := fun c => by rw [if_pos c] at he; omega
  rw [if_neg h2] at he
  have h3 : ¬ 400 < sizeS l + more.length := fun c => by rw [if_pos c] at he; omega
  unfold Go.Proofs.Ytdeckjoeggmagaa.writeL
  rw [txAt_some hx]
  have hxs := h.txs x (List.mem_of_getElem? hx)
  refine h.setT hx rfl hxs.2.1 (fun r hr => ?_) ?_
  · rcases List.mem_append.1 hr with hr | hr
    · exact hxs.2.2 r hr
    · simp at h2; exact h2 r hr
  · have := sumT_set (x' := { x with rs := x.rs ++ more }) hx
    unfold sizeS at h3 ⊢
    simp only [List.length_append] at this ⊢
    omega
theorem LOk.abortL {l : Lg} (h : LOk l) (keep : List Nm) : LOk (abortL l keep) := by
  have hsum : ∀ a : List Tx, sumT (a.filter (kept keep)) ≤ sumT a := fun a => by
    induction a with
    | nil => simp
    | cons x a ih => rw [List.filter_cons]; split <;> simp only [sumT] <;> omega
  have hl := List.length_filter_le (kept keep) l.txs
  have ht := h.t24
  have hz := h.size
  have hs := hsum l.txs
  exact ⟨by simp only [Go.Proofs.Ytdeckjoeggmagaa.abortL]; omega, h.d300, by unfold sizeS at hz ⊢; simp only [Go.Proofs.Ytdeckjoeggmagaa.abortL]; omega, h.log, fun x hx => h.txs x (List.mem_filter.1 hx).1, List.Pairwise.filter _ h.rise, h.dn, h.nd, fun x hx => h.sep x (List.mem_filter.1 hx).1⟩
/-- as LOk, with more names in done -/
structure LW (l : Lg) : Prop where
  t24 : l.txs.length ≤ 24
  size : sizeS l ≤ 400
  log : ∀ r ∈ l.log, recOk r = true
  txs : ∀ x ∈ l.txs, nmOk x.nm = true ∧ (x.st = 1 ∨ x.st = 2) ∧ ∀ r ∈ x.rs, recOk r = true
  rise : RiseT l.txs
  dn : ∀ n ∈ l.done, nmOk n = true
  nd : l.done.Nodup
  sep : ∀ x ∈ l.txs, ¬ x.nm ∈ l.done
theorem LOk.lw {l : Lg} (h : LOk l) : LW l := ⟨h.t24, h.size, h.log, h.txs, h.rise, h.dn, h.nd, h.sep⟩
theorem LW.ok {l : Lg} (h : LW l) (hd : l.done.length ≤ 300) : LOk l := ⟨h.t24, hd, h.size, h.log, h.txs, h.rise, h.dn, h.nd, h.sep⟩
theorem com1_no {l : Lg} {v : Nm} (h : atB l.txs v = false) : com1 l v = l := by unfold com1; rw [h]; simp
theorem com1_yes {l : Lg} {v : Nm} {x : Tx} (h : atB l.txs v = true) (hx : l.txs[atI l.txs v]? = some x) : com1 l v = ⟨l.txs.take (atI l.txs v) ++ l.txs.drop (atI l.txs v + 1), l.done ++ [v], l.log ++ x.rs⟩ := by unfold com1; rw [h, txAt_some hx]; simp
theorem LW.com1 {l : Lg} (h : LW l) (v : Nm) : LW (com1 l v) := by
  cases hb : atB l.txs v
  · rw [com1_no hb]; exact h
  · obtain ⟨x, hx, hxv⟩ := at_true hb
    rw [com1_yes hb hx]
    have hs := take_drop1 hx
    have hxm := List.mem_of_getElem? hx
    generalize atI l.txs v = i at *
    have hmem : ∀ z ∈ l.txs.take i ++ l.txs.drop (i + 1), z ∈ l.txs := fun z hz => by
      rcases List.mem_append.1 hz with hz | hz
      · exact List.mem_of_mem_take hz
      · exact List.mem_of_mem_drop hz
    have hne : ∀ z ∈ l.txs.take i ++ l.txs.drop (i + 1), z.nm ≠ v := fun z hz => by
      have hr := h.rise
      unfold RiseT at hr
      rw [hs, List.pairwise_append] at hr
      rcases List.mem_append.1 hz with hz | hz
      · have := hr.2.2 z hz x (by simp)
        rw [hxv] at this; exact cmpN_lt_ne this
      · have := (List.pairwise_cons.1 hr.2.1).1 z hz
        rw [hxv] at this; exact (cmpN_lt_ne this).symm
    have hts := h.t24
    have hz := h.size
    have hvd : ¬ v ∈ l.done := by rw [← hxv]; exact h.sep x hxm
    refine ⟨?_, ?_, ?_, fun z hz => h.txs z (hmem z hz), ?_, ?_, ?_, ?_⟩
    · have := congrArg List.length hs
      simp only [List.length_append, List.length_cons] at this ⊢; omega
    · unfold sizeS at hz ⊢
      rw [hs] at hz
      simp only [sumT_app, sumT, List.length_append] at hz ⊢; omega
    · intro r hr
      rcases List.mem_append.1 hr with hr | hr
      · exact h.log r hr
      · exact (h.txs x hxm).2.2 r hr
    · have hr := h.rise
      unfold RiseT at hr ⊢
      rw [hs, List.pairwise_append] at hr
      simp only
      rw [List.pairwise_append]
      exact ⟨hr.1, (List.pairwise_cons.1 hr.2.1).2, fun p hp q hq => hr.2.2 p hp q (by simp [hq])⟩
    · intro n hn
      rcases List.mem_append.1 hn with hn | hn
      · exact h.dn n hn
      · simp only [List.mem_singleton] at hn; rw [hn, ← hxv]; exact (h.txs x hxm).1
    · simp only
      rw [List.nodup_append]
      refine ⟨h.nd, by simp, fun p hp q hq => ?_⟩
      simp only [List.mem_singleton] at hq
      rw [hq]; rintro rfl; exact hvd hp
    · intro z hz hd
      rcases List.mem_append.1 hd with hd | hd
      · exact h.sep z (hmem z hz) hd
      · simp only [List.mem_singleton] at hd; exact hne z hz hd
theorem LW.commitL {l : Lg} (h : LW l) (ns : List Nm) : LW (commitL l ns) := by
  unfold Go.Proofs.Ytdeckjoeggmagaa.commitL
  induction ns generalizing l with
  | nil => exact h
  | cons v ns ih => exact ih (h.com1 v)
theorem commitE_zero {l : Lg} {ns : List Nm} (h : commitE l ns = 0) : riseN none ns = true ∧ firstE l ns ns = 0 ∧ (commitL l ns).done.length ≤ 300 := by
  unfold commitE at h
  cases h1 : riseN none ns
  · rw [h1] at h; simp at h
  · rw [h1] at h
    simp only [Bool.true_eq_false, if_false] at h
    by_cases h2 : firstE l ns ns = 0
    · rw [if_neg (fun c => c h2)] at h
      by_cases h3 : 300 < (commitL l ns).done.length
      · rw [if_pos h3] at h; omega
      · exact ⟨rfl, h2, by omega⟩
    · rw [if_pos h2] at h; exact absurd h h2
theorem run_ok {l : Lg} (h : LOk l) (o : Op16) (he : (runR l o).2.2 = 0) : LOk (runR l o).1 := by
  have hok := (lgOk_iff l).2 h
  unfold runR at he ⊢
  split at he
  · rename_i c; rw [if_pos c]
    simp only at he
    obtain ⟨-, h2, h3, h4⟩ := wRes_zero he
    unfold openR at he ⊢; simp only; rw [h4]; exact h.openL (by simpa using h2) h3
  · rename_i c; rw [if_neg c]
    split at he
    · rename_i c; rw [if_pos c]
      simp only at he
      obtain ⟨-, h2, h3, h4⟩ := wRes_zero he
      unfold writeR at he ⊢; simp only; rw [h4]; exact h.writeL h3
    · rename_i c; rw [if_neg c]
      split at he
      · rename_i c; rw [if_pos c]
        simp only at he
        obtain ⟨-, h2, h3, h4⟩ := wRes_zero he
        unfold readyR at he ⊢; simp only; rw [h4]; exact h.readyL h3
      · rename_i c; rw [if_neg c]
        split at he
        · rename_i c; rw [if_pos c]
          simp only at he
          obtain ⟨-, h2, h3, h4⟩ := wRes_zero he
          unfold commitR at he ⊢; simp only; rw [h4]; exact (h.lw.commitL _).ok (commitE_zero h3).2.2
        · rename_i c; rw [if_neg c]
          unfold abortR at he ⊢
          simp only at he ⊢
          obtain ⟨-, h2, h3, h4⟩ := wRes_zero he
          rw [h4]; exact h.abortL _
theorem zeroL_ok : LOk zeroL := (lgOk_iff _).1 (by decide)
end Go.Proofs.Ytdeckjoeggmagaa
