/- A step of a link, whole: what it computes, and what holds behind it. -/
import Derived.Test.YteoepeionomjlaaP5
namespace Go.Proofs.Yteoepeionomjlaa
open Go.RowKit
open Nat renaming reduceEqDiff → nA, reduceLT → nB, reduceLeDiff → nC, reduceAdd → nD, reduceMul → nE, reduceSub → nF, reduceBEq → nG
open Int renaming reduceToNat → iA, reduceLT → iB, reduceLE → iC, reduceEq → iD
open Bool renaming and_eq_true → bA, or_eq_true → bB, or_eq_false_iff → bC, and_eq_false_iff → bD, not_eq_true' → bE, not_eq_false' → bF, not_true → bG, not_false → bH
set_option linter.all false
set_option maxHeartbeats 4000000
attribute [local irreducible] AW Does

def stepS (b : Bt) (x : St) : Bt :=
  if kOf x = 0 ∨ kOf x = 1 then putB b x.e
  else if kOf x = 2 ∨ kOf x = 3 then { b with way := b.way ++ sendL b.s }
  else if kOf x = 4 then { b with way := b.way ++ [ackP b.r] }
  else if kOf x = 5 ∨ kOf x = 6 ∨ kOf x = 7 then arrS b x.n x.kp false
  else if kOf x = 8 then arrS b x.n false true
  else if kOf x = 9 then takB b
  else comesS b (forP x.p)
theorem kOf_is (x : St) : 0 ≤ kOf x ∧ kOf x ≤ 10 := by
  unfold kOf
  have h : 0 ≤ IntKind.u64.wrap x.kd := by simp only [IntKind.wrap, IntKind.bits, IntKind.signed]; simp; omega
  have h1 := Int.tmod_nonneg 11 h
  have h2 := Int.tmod_lt_of_pos (IntKind.u64.wrap x.kd) (show (0 : Int) < 11 by omega)
  omega
structure WInv (b : Bt) (k : Nat) : Prop where
  i : Inv b
  w : ∀ p ∈ b.way, WOk b p
  wl : b.way.length ≤ 8 * k
  pl : b.put.length ≤ k
  tl : b.taken.length ≤ k
theorem WInv.start (room : Int) : WInv (bt0 room) 0 := ⟨Inv.start room, by simp [bt0], by simp [bt0], by simp [bt0], by simp [bt0]⟩
theorem comesS_way (b : Bt) (p : Pk) : (comesS b p).way = b.way ∧ (comesS b p).put = b.put ∧ (comesS b p).taken = b.taken := by
  unfold comesS; split <;> exact ⟨rfl, rfl, rfl⟩
theorem WInv.comes {b : Bt} {k : Nat} (h : WInv b k) (p : Pk) (hp : WOk b p ∨ ¬ p.se = 7) : WInv (comesS b p) k := by
  obtain ⟨e1, e2, e3⟩ := comesS_way b p
  obtain ⟨i1, i2⟩ := h.i.comes p hp
  exact ⟨i1, by rw [e1]; exact fun q hq => i2 q (h.w q hq), by rw [e1]; exact h.wl, by rw [e2]; exact h.pl, by rw [e3]; exact h.tl⟩
theorem WInv.drop {b : Bt} {k : Nat} (h : WInv b k) (n : Int) : WInv (dropW b n) k := by
  have hsub : (b.way.take (atW b n) ++ b.way.drop (atW b n + 1)).Sublist b.way := by
    rw [← List.eraseIdx_eq_take_drop_succ]; exact List.eraseIdx_sublist _ _
  refine ⟨⟨h.i.s, h.i.r, h.i.se, h.i.re, h.i.pl, h.i.q, h.i.nx, h.i.tk, h.i.ba, h.i.en, h.i.row, h.i.li⟩, fun p hp => ⟨(h.w p (hsub.subset hp)).or⟩, ?_, h.pl, h.tl⟩
  have := hsub.length_le
  have := h.wl
  simp only [dropW]; omega
theorem WInv.arr {b : Bt} {k : Nat} (h : WInv b k) (n : Int) (keeps lost : Bool) : WInv (arrS b n keeps lost) k := by
  unfold arrS
  by_cases hw : b.way = []
  · rw [if_pos hw]; exact h
  · rw [if_neg hw]
    have h1 : WInv (if lost || !keeps then dropW b n else b) k := by split; exact h.drop n; exact h
    have h2 : ∀ p ∈ b.way, WOk (if lost || !keeps then dropW b n else b) p := by
      intro p hp; split
      · exact ⟨(h.w p hp).or⟩
      · exact h.w p hp
    simp only
    split
    · exact h1
    · cases hp : b.way[atW b n]? with
      | none => exact h1
      | some p => exact h1.comes p (.inl (h2 p (List.mem_of_getElem? hp)))
theorem WInv.more {b : Bt} {k m : Nat} (h : WInv b k) (hk : k ≤ m) : WInv b m := ⟨h.i, h.w, by have := h.wl; omega, by have := h.pl; omega, by have := h.tl; omega⟩
theorem WInv.step {b : Bt} {k : Nat} (h : WInv b k) (x : St) : WInv (stepS b x) (k + 1) := by
  have hsl := sndOk_len h.i.s
  have hsn := sendL_len b.s
  have hwl := h.wl
  have hpl := h.pl
  have htl := h.tl
  unfold stepS
  by_cases h1 : kOf x = 0 ∨ kOf x = 1
  · rw [if_pos h1]
    obtain ⟨i1, i2⟩ := h.i.put x.e
    have ew : (putB b x.e).way = b.way := by unfold putB; split <;> rfl
    have et : (putB b x.e).taken = b.taken := by unfold putB; split <;> rfl
    refine ⟨i1, by rw [ew]; exact fun p hp => i2 p (h.w p hp), by rw [ew]; omega, ?_, by rw [et]; omega⟩
    unfold putB; split
    · simp only [List.length_append, List.length_cons, List.length_nil]; omega
    · omega
  · rw [if_neg h1]
    by_cases h2 : kOf x = 2 ∨ kOf x = 3
    · rw [if_pos h2]
      refine ⟨⟨h.i.s, h.i.r, h.i.se, h.i.re, h.i.pl, h.i.q, h.i.nx, h.i.tk, h.i.ba, h.i.en, h.i.row, h.i.li⟩, fun p hp => ?_, ?_, by simp only; omega, by simp only; omega⟩
      · rcases List.mem_append.1 hp with hp | hp
        · exact ⟨(h.w p hp).or⟩
        · exact ⟨(h.i.sent hp).1.or⟩
      · simp only [List.length_append]; omega
    · rw [if_neg h2]
      by_cases h3 : kOf x = 4
      · rw [if_pos h3]
        refine ⟨⟨h.i.s, h.i.r, h.i.se, h.i.re, h.i.pl, h.i.q, h.i.nx, h.i.tk, h.i.ba, h.i.en, h.i.row, h.i.li⟩, fun p hp => ?_, ?_, by simp only; omega, by simp only; omega⟩
        · rcases List.mem_append.1 hp with hp | hp
          · exact ⟨(h.w p hp).or⟩
          · rw [List.mem_singleton.1 hp]; exact ⟨h.i.acks.or⟩
        · simp only [List.length_append, List.length_cons, List.length_nil]; omega
      · rw [if_neg h3]
        by_cases h4 : kOf x = 5 ∨ kOf x = 6 ∨ kOf x = 7
        · rw [if_pos h4]; exact (h.arr _ _ _).more (by omega)
        · rw [if_neg h4]
          by_cases h5 : kOf x = 8
          · rw [if_pos h5]; exact (h.arr _ _ _).more (by omega)
          · rw [if_neg h5]
            by_cases h6 : kOf x = 9
            · rw [if_pos h6]
              obtain ⟨i1, i2⟩ := h.i.takes
              have ew : (takB b).way = b.way := by unfold takB; split <;> rfl
              have et : (takB b).put = b.put := by unfold takB; split <;> rfl
              refine ⟨i1, by rw [ew]; exact fun p hp => i2 p (h.w p hp), by rw [ew]; omega, by rw [et]; omega, ?_⟩
              unfold takB; split
              · omega
              · simp only [List.length_append, List.length_cons, List.length_nil]; omega
            · rw [if_neg h6]
              refine (h.comes _ (.inr ?_)).more (by omega)
              unfold forP; split
              · simp
              · assumption
theorem step_a (b : Bt) (x : St) (nb : Nat) (B : Heap) (k : Nat) (hB : Bo B nb b) (h : WInv b k) (hk : k < 60) :
    ACall Try.prog 35 [.p nb 12 0 0, .g (St.av x)] B fun r B' => r = .c (.bool true) ∧ Bo B' nb (stepS b x) := by
  have hi := kOf_is x
  have hwl := h.wl
  have hpl := h.pl
  have htl := h.tl
  unfold stepS
  by_cases h1 : kOf x = 0 ∨ kOf x = 1
  · rw [if_pos h1]; exact step_put b x nb B hB h.i.s (by omega) h1
  · rw [if_neg h1]
    by_cases h2 : kOf x = 2 ∨ kOf x = 3
    · rw [if_pos h2]; exact step_send b x nb B hB h.i.s (by omega) h2
    · rw [if_neg h2]
      by_cases h3 : kOf x = 4
      · rw [if_pos h3]; exact step_ack b x nb B hB h.i.r (by omega) h3
      · rw [if_neg h3]
        by_cases h4 : kOf x = 5 ∨ kOf x = 6 ∨ kOf x = 7
        · rw [if_pos h4]; exact step_arr b x nb B hB h.i.s h.i.r (by omega) h4
        · rw [if_neg h4]
          by_cases h5 : kOf x = 8
          · rw [if_pos h5]; exact step_lose b x nb B hB h.i.s h.i.r (by omega) h5
          · rw [if_neg h5]
            by_cases h6 : kOf x = 9
            · rw [if_pos h6]; exact step_take b x nb B hB h.i.r (by omega) h6
            · rw [if_neg h6]; exact step_for b x nb B hB h.i.s h.i.r (by omega)
/-- what is sent finds room -/
theorem Inv.room {b : Bt} (h : Inv b) {p : Pk} (hp : p ∈ sendL b.s) : p.sq ≤ b.r.nx - 1 + b.r.ro ∧ (p.sq = b.r.nx → hearOk b.r p = true) := by
  obtain ⟨s1, s2, s3, s4, s5, s6, s7⟩ := h.sent hp
  obtain ⟨c1, c2, c3, c4, c5, c6, c7, c8⟩ := (rcvOk_iff _).1 h.r
  have hli := h.li
  refine ⟨by omega, fun hq => ?_⟩
  rcases s1.or with ⟨g1, g2, g3⟩ | ⟨g1, g2, g3⟩
  · omega
  have hlt := (List.getElem?_eq_some_iff.1 g3).1
  have hrow := (rowS_iff _).1 h.row
  have hen : endsS b.r.b = false := by
    cases he : endsS b.r.b
    · rfl
    · exfalso
      have htk := h.tk
      cases hl : b.r.b.length with
      | zero => rw [List.eq_nil_of_length_eq_zero hl] at he; cases he
      | succ m =>
        obtain ⟨y, hy⟩ : ∃ y, b.r.b[m]? = some y := ⟨_, List.getElem?_eq_getElem (by omega)⟩
        rw [endsS_get hl hy] at he
        have h1 : (b.taken ++ b.r.b)[b.taken.length + m]? = some y := by
          rw [List.getElem?_append_right (by omega), Nat.add_sub_cancel_left]; exact hy
        rw [htk, List.getElem?_take] at h1
        split at h1
        · refine (hrow _ y h1).2 ?_ (by simpa using he)
          have := congrArg List.length htk
          simp only [List.length_append, List.length_take] at this
          omega
        · cases h1
  have hel := (hrow _ _ g3).1
  simp only [hearOk, Bool.and_eq_true, decide_eq_true_eq, Bool.not_eq_true']
  exact ⟨⟨⟨⟨⟨⟨⟨s2, by rw [s3, h.re]⟩, s4⟩, hel⟩, hq⟩, s6⟩, by omega⟩, hen⟩
theorem Inv.hears {b : Bt} (h : Inv b) {p : Pk} (hp : p ∈ sendL b.s) : Inv { b with r := hearS b.r p } := by
  obtain ⟨s1, s2, s3, s4, s5, s6, s7⟩ := h.sent hp
  have := (h.comes p (.inl s1)).1
  unfold comesS at this
  rw [if_neg (by omega)] at this
  exact this
end Go.Proofs.Yteoepeionomjlaa
