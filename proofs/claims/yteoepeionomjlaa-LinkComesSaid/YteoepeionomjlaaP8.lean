/- The plain law of a round with nothing lost. -/
import Derived.Test.YteoepeionomjlaaP6
namespace Go.Proofs.Yteoepeionomjlaa
open Go.RowKit
open Nat renaming reduceEqDiff → nA, reduceLT → nB, reduceLeDiff → nC, reduceAdd → nD, reduceMul → nE, reduceSub → nF, reduceBEq → nG
open Int renaming reduceToNat → iA, reduceLT → iB, reduceLE → iC, reduceEq → iD
open Bool renaming and_eq_true → bA, or_eq_true → bB, or_eq_false_iff → bC, and_eq_false_iff → bD, not_eq_true' → bE, not_eq_false' → bF, not_true → bG, not_false → bH
set_option linter.all false
set_option maxHeartbeats 4000000
attribute [local irreducible] AW Does

theorem Inv.acked {b : Bt} (h : Inv b) (hp : b.put.length ≤ 1000) : Inv (comesS b (ackP b.r)) ∧ (comesS b (ackP b.r)).r = b.r ∧ (comesS b (ackP b.r)).put = b.put ∧ (comesS b (ackP b.r)).taken = b.taken ∧ (comesS b (ackP b.r)).s.ba = b.r.nx ∧ (b.r.b = [] → b.r.nx ≤ (comesS b (ackP b.r)).s.li) := by
  have h1 := (h.comes (ackP b.r) (.inl h.acks)).1
  refine ⟨h1, ?_⟩
  obtain ⟨a1, a2, a3, a4, a5, a6, a7, a8⟩ := (sndOk_iff _).1 h.s
  obtain ⟨c1, c2, c3, c4, c5, c6, c7, c8⟩ := (rcvOk_iff _).1 h.r
  have hse := h.se; have hre := h.re; have hpl := h.pl; have hnx := h.nx; have hba := h.ba
  have hli : (ackP b.r).li = b.r.nx - 1 + (b.r.ro - b.r.b.length) := by
    simp only [ackP]; rw [if_neg (by omega)]
  have hok : ackOk b.s (ackP b.r) = true := by
    simp only [ackOk, Bool.and_eq_true, decide_eq_true_eq]
    refine ⟨⟨⟨⟨⟨⟨rfl, ?_⟩, rfl⟩, ?_⟩, ?_⟩, ?_⟩, by omega⟩
    · simp only [ackP]; omega
    · simp only [ackP]; omega
    · simp only [ackP]; omega
    · simp only [ackP]; omega
  have e : comesS b (ackP b.r) = { b with s := ackS b.s (ackP b.r) } := by unfold comesS; rw [if_pos (show (ackP b.r).kd = 2 from rfl)]
  have e2 : ackS b.s (ackP b.r) = { b.s with q := b.s.q.drop ((ackP b.r).sq - b.s.ba).toNat, ba := (ackP b.r).sq, li := if b.s.li < (ackP b.r).li then (ackP b.r).li else b.s.li } := by unfold ackS; rw [if_pos hok]
  rw [e, e2]
  refine ⟨rfl, rfl, rfl, rfl, fun hb => ?_⟩
  simp only
  rw [hli, hb]
  simp only [List.length_nil]
  split <;> omega
theorem sendL_first {s : Snd} {p : Pk} (h : (sendL s)[0]? = some p) : p.sq = s.ba := by
  have hm := List.mem_of_getElem? h
  simp only [sendL, List.mem_filter, decide_eq_true_eq] at hm
  obtain ⟨j, hj⟩ := List.getElem?_of_mem hm.1
  have hl := (List.getElem?_eq_some_iff.1 hj).1
  rw [pkL_len] at hl
  obtain ⟨y, hy⟩ : ∃ y, s.q[j]? = some y := ⟨_, List.getElem?_eq_getElem hl⟩
  rw [pkL_get hy] at hj
  cases hj
  have hle : s.ba ≤ s.li := by have := hm.2; simp only [pkAt] at this; omega
  cases hq : s.q with
  | nil => rw [hq] at hl; simp at hl
  | cons x0 rest =>
    have e : pkL s = pkAt s 0 x0 :: (rest.zipIdx 1).map fun p => pkAt s p.2 p.1 := by
      simp [pkL, hq, List.zipIdx_cons]
    unfold sendL at h
    rw [e, List.filter_cons, if_pos (by simp only [pkAt]; simp; omega)] at h
    have h0 : pkAt s 0 x0 = pkAt s j y := by simpa using h
    rw [← h0]; simp [pkAt]
theorem sendL_some {s : Snd} (hq : s.q ≠ []) (hl : s.ba ≤ s.li) : 0 < (sendL s).length := by
  cases hq' : s.q with
  | nil => exact (hq hq').elim
  | cons x0 rest =>
    have e : pkL s = pkAt s 0 x0 :: (rest.zipIdx 1).map fun p => pkAt s p.2 p.1 := by
      simp [pkL, hq', List.zipIdx_cons]
    unfold sendL
    rw [e, List.filter_cons, if_pos (by simp only [pkAt]; simp; omega)]
    simp
/-- in the middle of what is sent -/
structure Rnd (b1 b : Bt) (j : Nat) : Prop where
  i : Inv b
  s : b.s = b1.s
  p : b.put = b1.put
  t : b.taken = b1.taken
  n : 0 < j ∨ b1.r.b ≠ [] → b.r.b ≠ []
  z : j = 0 → b.r = b1.r
theorem Rnd.start {b : Bt} (h : Inv b) : Rnd b b 0 := ⟨h, rfl, rfl, rfl, fun h => by rcases h with h | h; omega; exact h, fun _ => rfl⟩
theorem Rnd.step {b1 b : Bt} {j : Nat} {y : Pk} (h : Rnd b1 b j) (h1 : b1.s.ba = b1.r.nx) (hy : (sendL b1.s)[j]? = some y) : Rnd b1 (comesS b y) (j + 1) := by
  have hm := List.mem_of_getElem? hy
  have hm' : y ∈ sendL b.s := by rw [h.s]; exact hm
  obtain ⟨s1, s2, s3, s4, s5, s6, s7⟩ := h.i.sent hm'
  have hi := (h.i.comes y (.inl s1)).1
  have e : comesS b y = { b with r := hearS b.r y } := by unfold comesS; rw [if_neg (by omega)]
  rw [e] at hi ⊢
  refine ⟨hi, h.s, h.p, h.t, fun _ => ?_, fun hj => by omega⟩
  simp only
  by_cases hb : b.r.b = []
  · have hj : j = 0 := by
      cases j with
      | zero => rfl
      | succ j => exact (h.n (.inl (by omega)) hb).elim
    subst hj
    have hr := h.z rfl
    have hsq := sendL_first hy
    have hok := (h.i.room hm').2 (by rw [hsq, h1, hr])
    unfold hearS; rw [if_pos hok]; simp
  · unfold hearS; split
    · simp
    · exact hb
theorem Rnd.done {b1 b : Bt} (h : Rnd b1 b (sendL b1.s).length) (hi : Inv b1) (h1 : b1.s.ba = b1.r.nx) (hl : b1.r.b = [] → b1.r.nx ≤ b1.s.li) (ht : b1.taken.length < b1.put.length) : b.r.b ≠ [] := by
  by_cases hb : b1.r.b = []
  · refine h.n (.inl (sendL_some ?_ (by rw [h1]; exact hl hb)))
    intro hq
    have := hi.pl
    have htk := congrArg List.length hi.tk
    have hnx := hi.nx
    obtain ⟨c1, c2, -⟩ := (rcvOk_iff _).1 hi.r
    rw [hb, List.append_nil, List.length_take] at htk
    rw [hq] at this
    simp only [List.length_nil] at this
    omega
  · exact h.n (.inr hb)
theorem Inv.full {b : Bt} (h : Inv b) (hl : b.taken.length = b.put.length) : b.taken = b.put := by
  have htk := h.tk
  have := congrArg List.length htk
  rw [List.length_append, List.length_take] at this
  have hb : b.r.b = [] := List.eq_nil_of_length_eq_zero (by omega)
  rw [hb, List.append_nil] at htk
  rw [htk, List.take_of_length_le (by omega)]
theorem Inv.tlen {b : Bt} (h : Inv b) : b.taken.length ≤ b.put.length := by
  have := congrArg List.length h.tk
  rw [List.length_append, List.length_take] at this
  omega
end Go.Proofs.Yteoepeionomjlaa
