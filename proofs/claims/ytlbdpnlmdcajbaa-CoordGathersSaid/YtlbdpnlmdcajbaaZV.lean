/- What is gathered: plain law of CoordGathers. -/
import Derived.Test.YtlbdpnlmdcajbaaZS
import Derived.Test.YtlbdpnlmdcajbaaZT
import Derived.Test.YtlbdpnlmdcajbaaZM
namespace Go.Proofs.Ytlbdpnlmdcajbaa
open Go.RowKit
open Nat renaming reduceEqDiff → nA, reduceLT → nB, reduceLeDiff → nC, reduceAdd → nD, reduceMul → nE, reduceSub → nF, reduceBEq → nG
open Int renaming reduceToNat → iA, reduceLT → iB, reduceLE → iC, reduceEq → iD
open Bool renaming and_eq_true → bA, or_eq_true → bB, or_eq_false_iff → bC, and_eq_false_iff → bD, not_eq_true' → bE, not_eq_false' → bF, not_true → bG, not_false → bH
set_option linter.all false
set_option maxHeartbeats 4000000
attribute [local irreducible] AW Does ACall tE tS tB tZ
set_option maxRecDepth 5000

theorem ackHas_not {ts : Int} {t : Int} : ∀ {l : List Ak} {last : Int}, akGo ts last l = true → ackHas l t = false → ∀ x ∈ l, ¬ x.task = t
  | [], _, _, _, x, hx => by cases hx
  | y :: l, last, h, hh, x, hx => by
    rw [akGo] at h
    split at h
    · rename_i c
      rw [ackHas_cons] at hh
      by_cases d : y.task < t
      · rw [if_pos d] at hh
        rcases List.mem_cons.1 hx with rfl | hx
        · omega
        · exact ackHas_not h hh x hx
      · rw [if_neg d] at hh
        have d2 : ¬ y.task = t := by simpa using hh
        rcases List.mem_cons.1 hx with rfl | hx
        · exact d2
        · have := ((akGo_len ts l y.task h).2 x hx).1
          omega
    · cases h
theorem putAk_find (a : Ak) (k : Int) : ∀ (l : List Ak), (putAk l a).find? (fun x => decide (x.task = k)) = if a.task = k then some a else l.find? fun x => decide (x.task = k)
  | [] => by
    have e : putAk [] a = [a] := rfl
    rw [e, List.find?_cons]
    by_cases c : a.task = k <;> simp [c]
  | x :: l => by
    have ih := putAk_find a k l
    rw [putAk_cons]
    by_cases c : x.task < a.task
    · rw [if_pos c, List.find?_cons, List.find?_cons, ih]
      by_cases d : x.task = k
      · have d2 : ¬ a.task = k := by omega
        simp [d, d2]
      · simp [d]
    · rw [if_neg c, List.find?_cons]
      by_cases d : a.task = k
      · rw [decide_eq_true d, if_pos d]
      · rw [decide_eq_false d, if_neg d]
theorem putAk_len (l : List Ak) (a : Ak) : (putAk l a).length = l.length + 1 := by
  unfold putAk
  have := lbd_le (fun b => decide (b.task - a.task < 0)) l
  simp only [List.length_append, List.length_take, List.length_drop, List.length_singleton, ackK]
  omega
theorem putAk_mem {l : List Ak} {a x : Ak} (h : x ∈ putAk l a) : x = a ∨ x ∈ l := by
  unfold putAk at h
  rcases List.mem_append.1 h with h | h
  · rcases List.mem_append.1 h with h | h
    · exact .inr (List.mem_of_mem_take h)
    · exact .inl (by simpa using h)
  · exact .inr (List.mem_of_mem_drop h)
theorem akGo_full {ts : Int} : ∀ {l : List Ak} {last : Int}, akGo ts last l = true → (l.length : Int) = ts - last - 1 → ∀ (i : Nat) (x : Ak), l[i]? = some x → x.task = last + 1 + i
  | [], _, _, _, i, x, hx => by simp at hx
  | y :: l, last, h, hl, i, x, hx => by
    rw [akGo] at h
    split at h
    · rename_i c
      have h2 := (akGo_len ts l y.task h).1
      simp only [List.length_cons] at hl
      have hy : y.task = last + 1 := by omega
      cases i with
      | zero => simp only [List.getElem?_cons_zero, Option.some.injEq] at hx; subst hx; omega
      | succ i =>
        simp only [List.getElem?_cons_succ] at hx
        have := akGo_full h (by omega) i x hx
        omega
    · cases h
theorem akGo_nodup {ts : Int} : ∀ {l : List Ak} {last : Int}, -1 ≤ last → akGo ts last l = true → (l.map fun a => a.task.toNat).Nodup
  | [], _, _, _ => List.Pairwise.nil
  | y :: l, last, h0, h => by
    rw [akGo] at h
    split at h
    · rename_i c
      rw [List.map_cons, List.nodup_cons]
      refine ⟨fun hm => ?_, akGo_nodup (by omega) h⟩
      obtain ⟨x, hx, e⟩ := List.mem_map.1 hm
      have := ((akGo_len ts l y.task h).2 x hx).1
      omega
    · cases h
theorem miss_len {ts : Int} {l : List Ak} (h : akGo ts (-1) l = true) : ((List.range ts.toNat).filter fun t : Nat => !hasT l (t : Int)).length + l.length = ts.toNat := by
  have h1 := split_perm (fun t : Nat => hasT l (t : Int)) (List.range ts.toNat)
  have h2 := h1.length_eq
  rw [List.length_append, List.length_range] at h2
  have h3 : ((List.range ts.toNat).filter fun t : Nat => hasT l (t : Int)).Perm (l.map fun a => a.task.toNat) := by
    rw [List.perm_ext_iff_of_nodup (List.nodup_range.filter _) (akGo_nodup (Int.le_refl _) h)]
    intro t
    rw [List.mem_filter, List.mem_range, List.mem_map]
    unfold hasT
    rw [List.any_eq_true]
    have hb := (akGo_len ts l (-1) h).2
    constructor
    · rintro ⟨-, x, hx, e⟩
      simp only [decide_eq_true_eq] at e
      exact ⟨x, hx, by omega⟩
    · rintro ⟨x, hx, e⟩
      have := hb x hx
      exact ⟨by omega, x, hx, by simp only [decide_eq_true_eq]; omega⟩
  have h4 := h3.length_eq
  rw [List.length_map] at h4
  omega

abbrev kI (n : Int) : Value := .int .i64 n
theorem kkI : KeyK Try.prog 3 kI := KeyK.int tU3
/-- a map that holds what was acked -/
structure GA (acks : List Ak) (li : List (ME Int)) (M : Mem) : Prop where
  v : ∀ k : Int, (mget k li).map ME.y = (acks.find? fun a => decide (a.task = k)).map valA
  len : li.length = acks.length
  mw : MW M li
  oc : ∀ a ∈ acks, octs a.bytes
theorem GA.nil : GA [] [] M0 := ⟨fun k => rfl, rfl, MW.nil _, fun a h => by cases h⟩
theorem GA.put {acks : List Ak} {li : List (ME Int)} {M M' : Mem} (h : GA acks li M) {ts : Int} (hg : akGo ts (-1) acks = true) {a : Ak} (hh : ackHas acks a.task = false) (ho : octs a.bytes) {v : Value} (hM : M.le M') (hv : V M' (valA a) v) (c : Nat) :
    GA (putAk acks a) (mput a.task v (valA a) c li) M' := by
  refine ⟨fun k => ?_, ?_, h.mw.put hM hv, fun x hx => ?_⟩
  · rw [mget_put, putAk_find, h.v]
    by_cases e : k = a.task
    · rw [if_pos e, if_pos e.symm]; rfl
    · rw [if_neg e, if_neg (fun x => e x.symm)]
  · have hn : mget a.task li = none := by
      have h1 := h.v a.task
      have h2 : acks.find? (fun x => decide (x.task = a.task)) = none := by
        rw [List.find?_eq_none]
        intro x hx
        simpa using ackHas_not hg hh x hx
      rw [h2] at h1
      cases hm : mget a.task li with
      | none => rfl
      | some e => rw [hm] at h1; cases h1
    rw [mput_none hn, putAk_len, List.length_append, h.len]; rfl
  · rcases putAk_mem hx with rfl | hx
    · exact ho
    · exact h.oc x hx
/-- the map of maps, as far as it matters -/
structure GIn (l : List Pd) (lo : List (ME Int)) (G : Heap) (n6 : Nat) (f : Int → Nat) : Prop where
  b : ∀ p ∈ l, (mget p.num lo).map ME.y = some (.c (.map (some (f p.num)))) ∧ f p.num ≠ n6 ∧ ∃ li ci Mi, G (f p.num) = some (bm kI li ci Mi) ∧ GA p.acks li Mi
  inj : ∀ p ∈ l, ∀ q ∈ l, p.num ≠ q.num → f p.num ≠ f q.num
theorem GIn.nil (lo : List (ME Int)) (G : Heap) (n6 : Nat) : GIn [] lo G n6 (fun _ => 0) := ⟨fun p h => (by cases h), fun p h => (by cases h)⟩
theorem GIn.sub {l l' : List Pd} {lo : List (ME Int)} {G G' : Heap} {n6 : Nat} {f : Int → Nat} (h : GIn l lo G n6 f) (hs : ∀ p ∈ l', p ∈ l) (hG : ∀ m li ci Mi, m ≠ n6 → G m = some (bm kI li ci Mi) → G' m = some (bm kI li ci Mi)) : GIn l' lo G' n6 f :=
  ⟨fun p hp => by
    obtain ⟨h1, h2, li, ci, Mi, h3, h4⟩ := h.b p (hs p hp)
    exact ⟨h1, h2, li, ci, Mi, hG _ _ _ _ h2 h3, h4⟩, fun p hp q hq => h.inj p (hs p hp) q (hs q hq)⟩
theorem GIn.new {l : List Pd} {lo : List (ME Int)} {G G' : Heap} {n6 : Nat} {f : Int → Nat} (h : GIn l lo G n6 f) {p : Pd} (hn : ∀ q ∈ l, ¬ q.num = p.num) (ha : p.acks = []) {b : Nat} (hb : G b = none) (hb6 : b ≠ n6) (hGb : G' b = some (bm kI [] 0 M0))
    (hG : ∀ m li ci Mi, m ≠ n6 → G m = some (bm kI li ci Mi) → G' m = some (bm kI li ci Mi)) (v : Value) (c : Nat) :
    GIn (l ++ [p]) (mput p.num v (.c (.map (some b))) c lo) G' n6 (fun k => if k = p.num then b else f k) := by
  have hne : ∀ q ∈ l, f q.num ≠ b := fun q hq e => by
    obtain ⟨-, -, li, ci, Mi, h3, -⟩ := h.b q hq
    rw [e, hb] at h3; cases h3
  constructor
  · intro q hq
    rcases List.mem_append.1 hq with hq | hq
    · obtain ⟨h1, h2, li, ci, Mi, h3, h4⟩ := h.b q hq
      simp only [if_neg (hn q hq)]
      exact ⟨by rw [mget_put, if_neg (hn q hq)]; exact h1, h2, li, ci, Mi, hG _ _ _ _ h2 h3, h4⟩
    · simp only [List.mem_singleton] at hq
      subst hq
      simp only [if_true]
      exact ⟨by rw [mget_put, if_pos rfl], hb6, [], 0, M0, hGb, by rw [ha]; exact GA.nil⟩
  · intro q hq r hr hqr
    rcases List.mem_append.1 hq with hq1 | hq1 <;> rcases List.mem_append.1 hr with hr1 | hr1
    · simp only [if_neg (hn q hq1), if_neg (hn r hr1)]; exact h.inj q hq1 r hr1 hqr
    · simp only [List.mem_singleton] at hr1
      subst hr1
      simp only [if_true, if_neg (hn q hq1)]; exact hne q hq1
    · simp only [List.mem_singleton] at hq1
      subst hq1
      simp only [if_true, if_neg (hn r hr1)]; exact fun e => hne r hr1 e.symm
    · simp only [List.mem_singleton] at hq1 hr1
      subst hq1 hr1; exact absurd rfl hqr
theorem GIn.ack {l : List Pd} {lo : List (ME Int)} {G G' : Heap} {n6 : Nat} {f : Int → Nat} (h : GIn l lo G n6 f) (hnd : (l.map Pd.num).Nodup) {i : Nat} {p p' : Pd} (hp : l[i]? = some p) (hn : p'.num = p.num) {li : List (ME Int)} {ci : Nat} {Mi : Mem} (hb : G' (f p.num) = some (bm kI li ci Mi)) (hg : GA p'.acks li Mi)
    (hG : ∀ m li ci Mi, m ≠ n6 → m ≠ f p.num → G m = some (bm kI li ci Mi) → G' m = some (bm kI li ci Mi)) : GIn (l.set i p') lo G' n6 f := by
  have hpm := List.mem_of_getElem? hp
  have key : ∀ q ∈ l.set i p', q = p' ∨ (q ∈ l ∧ q.num ≠ p.num) := fun q hq => by
    obtain ⟨j, hj⟩ := List.getElem?_of_mem hq
    rw [List.getElem?_set] at hj
    by_cases e : i = j
    · subst e
      rw [if_pos rfl] at hj
      split at hj
      · left; exact (Option.some.inj hj).symm
      · cases hj
    · rw [if_neg e] at hj
      refine .inr ⟨List.mem_of_getElem? hj, fun e2 => ?_⟩
      have h1 : (l.map Pd.num)[i]? = some p.num := by rw [List.getElem?_map, hp]; rfl
      have h2 : (l.map Pd.num)[j]? = some p.num := by rw [List.getElem?_map, hj, ← e2]; rfl
      have hlt := (List.getElem?_eq_some_iff.1 h1).1
      exact e ((List.getElem?_inj hlt hnd).1 (by rw [h1, h2]))
  have back : ∀ q ∈ l.set i p', ∃ r ∈ l, r.num = q.num := fun q hq => by
    rcases key q hq with rfl | ⟨h1, -⟩
    · exact ⟨p, hpm, hn.symm⟩
    · exact ⟨q, h1, rfl⟩
  constructor
  · intro q hq
    rcases key q hq with rfl | ⟨h1, h2⟩
    · rw [hn]
      obtain ⟨g1, g2, -⟩ := h.b p hpm
      exact ⟨g1, g2, li, ci, Mi, hb, hg⟩
    · obtain ⟨g1, g2, li', ci', Mi', g3, g4⟩ := h.b q h1
      exact ⟨g1, g2, li', ci', Mi', hG _ _ _ _ g2 (h.inj q h1 p hpm h2) g3, g4⟩
  · intro q hq r hr hqr
    obtain ⟨q', h1, e1⟩ := back q hq
    obtain ⟨r', h2, e2⟩ := back r hr
    rw [← e1, ← e2] at hqr ⊢
    exact h.inj q' h1 r' h2 hqr
end Go.Proofs.Ytlbdpnlmdcajbaa
