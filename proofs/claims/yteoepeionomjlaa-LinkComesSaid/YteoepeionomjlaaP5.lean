/- The plain law of a link: what holds between its ends. -/
import Derived.Test.YteoepeionomjlaaP4
namespace Go.Proofs.Yteoepeionomjlaa
open Go.RowKit
open Nat renaming reduceEqDiff → nA, reduceLT → nB, reduceLeDiff → nC, reduceAdd → nD, reduceMul → nE, reduceSub → nF, reduceBEq → nG
open Int renaming reduceToNat → iA, reduceLT → iB, reduceLE → iC, reduceEq → iD
open Bool renaming and_eq_true → bA, or_eq_true → bB, or_eq_false_iff → bC, and_eq_false_iff → bD, not_eq_true' → bE, not_eq_false' → bF, not_true → bG, not_false → bH
set_option linter.all false
set_option maxHeartbeats 4000000
attribute [local irreducible] AW Does

theorem rowS_iff (l : List El) : rowS l = true ↔ ∀ (i : Nat) (x : El), l[i]? = some x → elOk x = true ∧ (i + 1 < l.length → ¬ x.kd = 3) := by
  constructor
  · intro h i x hx
    constructor
    · cases ho : elOk x
      · rw [rowS_bad hx ho] at h; cases h
      · rfl
    · intro hi h3
      rw [rowS_end hx hi h3] at h; cases h
  · exact fun h => rowS_ok h
theorem rowS_drop {l : List El} (h : rowS l = true) (n : Nat) : rowS (l.drop n) = true := by
  rw [rowS_iff] at h ⊢
  intro i x hx
  rw [List.getElem?_drop] at hx
  refine ⟨(h _ x hx).1, fun hi => (h _ x hx).2 ?_⟩
  rw [List.length_drop] at hi; omega
theorem rowS_take {l : List El} (h : rowS l = true) (n : Nat) : rowS (l.take n) = true := by
  rw [rowS_iff] at h ⊢
  intro i x hx
  rw [List.getElem?_take] at hx
  split at hx
  · refine ⟨(h _ x hx).1, fun hi => (h _ x hx).2 ?_⟩
    rw [List.length_take] at hi; omega
  · cases hx
theorem endsS_snoc (l : List El) (e : El) : endsS (l ++ [e]) = decide (e.kd = 3) := endsS_get (k := l.length) (by simp) (by simp)
theorem rowS_snoc {l : List El} {e : El} (h : rowS l = true) (he : elOk e = true) (hn : endsS l = false) : rowS (l ++ [e]) = true := by
  rw [rowS_iff] at h ⊢
  intro i x hx
  by_cases hi : i < l.length
  · rw [List.getElem?_append_left hi] at hx
    refine ⟨(h i x hx).1, fun _ h3 => ?_⟩
    by_cases hl : i + 1 < l.length
    · exact (h i x hx).2 hl h3
    · have := endsS_get (k := i) (show l.length = i + 1 by omega) hx
      rw [hn] at this
      simp [h3] at this
  · rw [List.getElem?_append_right (by omega)] at hx
    have h0 : i - l.length = 0 := by
      have := (List.getElem?_eq_some_iff.1 hx).1; simp at this; omega
    rw [h0] at hx; simp at hx; subst hx
    exact ⟨he, fun hi2 => by simp at hi2; omega⟩
theorem endsS_drop {l : List El} {n : Nat} (h : endsS (l.drop n) = true) : endsS l = true := by
  cases hl : (l.drop n).length with
  | zero => rw [List.eq_nil_of_length_eq_zero hl] at h; cases h
  | succ k =>
    obtain ⟨x, hx⟩ : ∃ x, (l.drop n)[k]? = some x := ⟨_, List.getElem?_eq_getElem (by omega)⟩
    rw [endsS_get hl hx] at h
    rw [List.getElem?_drop] at hx
    rw [List.length_drop] at hl
    rw [endsS_get (k := n + k) (by omega) hx]; exact h
structure WOk (b : Bt) (p : Pk) : Prop where
  or : (p.kd = 2 ∧ p.sq ≤ b.r.nx ∧ p.li ≤ b.r.nx - 1 + (b.r.ro - b.r.b.length)) ∨ (p.kd = 1 ∧ 1 ≤ p.sq ∧ b.put[(p.sq - 1).toNat]? = some p.e)
structure Inv (b : Bt) : Prop where
  s : sndOk b.s = true
  r : rcvOk b.r = true
  se : b.s.se = 7
  re : b.r.se = 7
  pl : (b.put.length : Int) = b.s.ba - 1 + b.s.q.length
  q : b.s.q = b.put.drop (b.s.ba - 1).toNat
  nx : b.r.nx - 1 ≤ b.put.length
  tk : b.taken ++ b.r.b = b.put.take (b.r.nx - 1).toNat
  ba : b.s.ba ≤ b.r.nx
  en : b.s.en = endsS b.put
  row : rowS b.put = true
  li : b.s.li ≤ b.r.nx - 1 + (b.r.ro - b.r.b.length)
theorem sndOk_iff (s : Snd) : sndOk s = true ↔ seOk s.se = true ∧ 1 ≤ s.ba ∧ s.ba ≤ 4611686018427387904 ∧ s.li ≤ 4611686018427387904 ∧ s.q.length ≤ 8 ∧ rowS s.q = true ∧ s.ba + s.q.length ≤ 4611686018427387905 ∧ (endsS s.q = true → s.en = true) := by
  constructor
  · intro h
    have h1 := behS_ok h
    simp only [sndOk, sndA, Bool.and_eq_true, decide_eq_true_eq, Bool.or_eq_true, Bool.not_eq_true'] at h
    rw [h1] at h
    obtain ⟨⟨⟨⟨⟨⟨a1, a2⟩, a3⟩, a4⟩, a5, a6⟩, a7⟩, a8⟩ := h
    exact ⟨a1, a2, a3, a4, by omega, a6, a7, fun he => by rcases a8 with a8 | a8; (rw [he] at a8; cases a8); exact a8⟩
  · rintro ⟨a1, a2, a3, a4, a5, a6, a7, a8⟩
    have hb : behS s.ba s.q = s.ba + s.q.length := wrap_u64 (by omega) (by omega)
    simp only [sndOk, sndA, Bool.and_eq_true, decide_eq_true_eq, Bool.or_eq_true, Bool.not_eq_true']
    rw [hb]
    refine ⟨⟨⟨⟨⟨⟨a1, a2⟩, a3⟩, a4⟩, by omega, a6⟩, a7⟩, ?_⟩
    cases he : endsS s.q
    · exact .inl rfl
    · exact .inr (a8 he)
theorem rcvOk_iff (r : Rcv) : rcvOk r = true ↔ seOk r.se = true ∧ 1 ≤ r.nx ∧ r.nx ≤ 4611686018427387905 ∧ 1 ≤ r.ro ∧ r.ro ≤ 8 ∧ (r.b.length : Int) ≤ r.ro ∧ rowS r.b = true ∧ (r.b.length : Int) < r.nx := by
  simp only [rcvOk, rcvA, Bool.and_eq_true, decide_eq_true_eq]
  constructor
  · rintro ⟨⟨⟨⟨⟨⟨a1, a2⟩, a3⟩, a4⟩, a5⟩, a6, a7⟩, a8⟩; exact ⟨a1, a2, a3, a4, a5, a6, a7, a8⟩
  · rintro ⟨a1, a2, a3, a4, a5, a6, a7, a8⟩; exact ⟨⟨⟨⟨⟨⟨a1, a2⟩, a3⟩, a4⟩, a5⟩, a6, a7⟩, a8⟩
theorem Inv.start (room : Int) : Inv (bt0 room) := by
  have hr := roomOf_ok room
  refine ⟨?_, ?_, rfl, rfl, by simp [bt0], by simp [bt0], by simp [bt0], by simp [bt0], by simp [bt0], rfl, rfl, ?_⟩
  · rw [sndOk_iff]; simp [bt0]; exact ⟨by decide, rfl, rfl⟩
  · rw [rcvOk_iff]; simp only [bt0]; refine ⟨by decide, by omega, by omega, by omega, by omega, by simp; omega, rfl, by simp⟩
  · simp [bt0]; omega
theorem Inv.put {b : Bt} (h : Inv b) (e : El) : Inv (putB b e) ∧ ∀ p, WOk b p → WOk (putB b e) p := by
  unfold putB
  by_cases h0 : putE b.s e = 0
  · rw [if_pos h0]
    have hps : putS b.s e = { b.s with q := b.s.q ++ [e], en := decide (e.kd = 3) } := by unfold putS; rw [if_pos h0]
    have hbh := behS_ok h.s
    obtain ⟨a1, a2, a3, a4, a5, a6, a7, a8⟩ := (sndOk_iff _).1 h.s
    have hs := h.se; have hpl := h.pl; have hnx := h.nx; have hli := h.li; have hba := h.ba
    have hel : elOk e = true := by
      cases ho : elOk e
      · rw [putE, ho] at h0; simp at h0
      · rfl
    have hen : b.s.en = false := by
      cases ho : b.s.en
      · rfl
      · rw [putE, hel, ho] at h0; simp at h0
    have h8 : ¬ 8 ≤ (b.s.q.length : Int) ∧ ¬ 4611686018427387904 < behS b.s.ba b.s.q := by
      rw [putE, hel, hen] at h0
      by_cases c1 : 8 ≤ (b.s.q.length : Int)
      · simp [c1] at h0
      · by_cases c2 : 4611686018427387904 < behS b.s.ba b.s.q
        · simp [c2] at h0
        · exact ⟨c1, c2⟩
    rw [hbh] at h8
    have hrow := rowS_snoc h.row hel (by rw [← h.en]; exact hen)
    have hq' : b.s.q ++ [e] = (b.put ++ [e]).drop (b.s.ba - 1).toNat := by
      rw [List.drop_append_of_le_length (by omega), ← h.q]
    refine ⟨⟨?_, h.r, by rw [hps]; exact h.se, h.re, ?_, ?_, ?_, ?_, ?_, ?_, hrow, ?_⟩, fun p hp => ⟨?_⟩⟩
    · rw [hps, sndOk_iff]
      refine ⟨a1, a2, a3, a4, by simp; omega, by rw [hq']; exact rowS_drop hrow _, by simp; omega, fun he => ?_⟩
      rw [endsS_snoc] at he; exact he
    · rw [hps]; simp; omega
    · rw [hps]; exact hq'
    · simp; omega
    · rw [List.take_append_of_le_length (show (b.r.nx - 1).toNat ≤ b.put.length by omega)]; exact h.tk
    · rw [hps]; exact hba
    · rw [hps]; exact (endsS_snoc _ _).symm
    · rw [hps]; exact hli
    · rcases hp.or with ⟨g1, g2, g3⟩ | ⟨g1, g2, g3⟩
      · exact .inl ⟨g1, g2, g3⟩
      · right
        refine ⟨g1, g2, ?_⟩
        have := (List.getElem?_eq_some_iff.1 g3).1
        rw [List.getElem?_append_left this]; exact g3
  · rw [if_neg h0]; exact ⟨h, fun p hp => hp⟩
theorem Inv.sent {b : Bt} (h : Inv b) {p : Pk} (hp : p ∈ sendL b.s) : WOk b p ∧ p.kd = 1 ∧ p.se = 7 ∧ p.li = 0 ∧ p.sq ≤ b.s.li ∧ p.sq ≤ 4611686018427387904 ∧ 1 ≤ p.sq := by
  obtain ⟨a1, a2, a3, a4, a5, a6, a7, a8⟩ := (sndOk_iff _).1 h.s
  simp only [sendL, List.mem_filter, decide_eq_true_eq] at hp
  obtain ⟨hp, hle⟩ := hp
  obtain ⟨j, hj⟩ := List.getElem?_of_mem hp
  have hl := (List.getElem?_eq_some_iff.1 hj).1
  rw [pkL_len] at hl
  obtain ⟨x, hx⟩ : ∃ x, b.s.q[j]? = some x := ⟨_, List.getElem?_eq_getElem hl⟩
  rw [pkL_get hx] at hj
  cases hj
  refine ⟨⟨.inr ⟨rfl, ?_, ?_⟩⟩, rfl, h.se, rfl, hle, ?_, ?_⟩
  · simp only [pkAt]; omega
  · simp only [pkAt]
    rw [h.q, List.getElem?_drop] at hx
    rw [← hx]; congr 1; omega
  · simp only [pkAt]; omega
  · simp only [pkAt]; omega
theorem Inv.acks {b : Bt} (h : Inv b) : WOk b (ackP b.r) := ⟨.inl ⟨rfl, by simp [ackP], by simp only [ackP]; split <;> omega⟩⟩
theorem Inv.comes {b : Bt} (h : Inv b) (p : Pk) (hw : WOk b p ∨ ¬ p.se = 7) : Inv (comesS b p) ∧ ∀ p', WOk b p' → WOk (comesS b p) p' := by
  obtain ⟨a1, a2, a3, a4, a5, a6, a7, a8⟩ := (sndOk_iff _).1 h.s
  obtain ⟨c1, c2, c3, c4, c5, c6, c7, c8⟩ := (rcvOk_iff _).1 h.r
  have hs := h.se; have hre := h.re; have hpl := h.pl; have hnx := h.nx; have hli := h.li; have hba := h.ba
  unfold comesS
  by_cases hk : p.kd = 2
  · rw [if_pos hk]
    unfold ackS
    by_cases ho : ackOk b.s p = true
    · rw [if_pos ho]
      simp only [ackOk, Bool.and_eq_true, decide_eq_true_eq] at ho
      obtain ⟨⟨⟨⟨⟨⟨o1, o2⟩, o3⟩, o4⟩, o5⟩, o6⟩, o7⟩ := ho
      rcases hw with hw | hw
      · rcases hw.or with ⟨g1, g2, g3⟩ | ⟨g1, g2, g3⟩
        · have hq' : b.s.q.drop (p.sq - b.s.ba).toNat = b.put.drop (p.sq - 1).toNat := by
            rw [h.q, List.drop_drop]; congr 1; omega
          refine ⟨⟨?_, h.r, h.se, h.re, ?_, hq', h.nx, h.tk, g2, h.en, h.row, ?_⟩, fun p' hp' => ⟨hp'.or⟩⟩
          · rw [sndOk_iff]
            refine ⟨a1, (show (1 : Int) ≤ p.sq by omega), o6, by simp only; split <;> omega, by simp only [List.length_drop]; omega, by simp only; exact rowS_drop a6 _, by simp only [List.length_drop]; omega, fun he => a8 (endsS_drop he)⟩
          · simp only [List.length_drop]; omega
          · simp only; split <;> omega
        · omega
      · omega
    · rw [if_neg ho]; exact ⟨h, fun p' hp' => hp'⟩
  · rw [if_neg hk]
    unfold hearS
    by_cases ho : hearOk b.r p = true
    · rw [if_pos ho]
      simp only [hearOk, Bool.and_eq_true, decide_eq_true_eq, Bool.not_eq_true'] at ho
      obtain ⟨⟨⟨⟨⟨⟨⟨o1, o2⟩, o3⟩, o4⟩, o5⟩, o6⟩, o7⟩, o8⟩ := ho
      rcases hw with hw | hw
      · rcases hw.or with ⟨g1, g2, g3⟩ | ⟨g1, g2, g3⟩
        · omega
        · have hlt := (List.getElem?_eq_some_iff.1 g3).1
          have htk : b.taken ++ (b.r.b ++ [p.e]) = b.put.take (b.r.nx + 1 - 1).toNat := by
            rw [← List.append_assoc, h.tk]
            have e1 : (b.r.nx + 1 - 1).toNat = (b.r.nx - 1).toNat + 1 := by omega
            rw [e1, take_snoc (x := p.e)]
            rw [← g3]; congr 1; omega
          have hrw : rowS (b.r.b ++ [p.e]) = true := by
            have : b.r.b ++ [p.e] = (b.put.take (b.r.nx + 1 - 1).toNat).drop b.taken.length := by rw [← htk, List.drop_left]
            rw [this]; exact rowS_drop (rowS_take h.row _) _
          refine ⟨⟨h.s, ?_, h.se, h.re, h.pl, h.q, ?_, htk, ?_, h.en, h.row, ?_⟩, fun p' hp' => ⟨?_⟩⟩
          · rw [rcvOk_iff]
            refine ⟨c1, by simp only; omega, by simp only; omega, c4, c5, by simp; omega, hrw, by simp; omega⟩
          · simp only; omega
          · simp only; omega
          · simp only [List.length_append, List.length_cons, List.length_nil]; omega
          · rcases hp'.or with ⟨q1, q2, q3⟩ | ⟨q1, q2, q3⟩
            · left; simp only [List.length_append, List.length_cons, List.length_nil]; omega
            · exact .inr ⟨q1, q2, q3⟩
      · omega
    · rw [if_neg ho]; exact ⟨h, fun p' hp' => hp'⟩
theorem Inv.takes {b : Bt} (h : Inv b) : Inv (takB b) ∧ ∀ p, WOk b p → WOk (takB b) p := by
  obtain ⟨c1, c2, c3, c4, c5, c6, c7, c8⟩ := (rcvOk_iff _).1 h.r
  have hli := h.li
  unfold takB
  cases hb : b.r.b with
  | nil => rw [if_pos rfl]; exact ⟨h, fun p hp => hp⟩
  | cons y b' =>
    rw [if_neg (by simp)]
    have e1 : takeE b.r = 0 := by simp [takeE, h.r, hb]
    have e2 : takeS b.r = { b.r with b := b' } := by simp [takeS, e1, hb]
    have e3 : takeX b.r = y := by simp [takeX, e1, hb]
    have hlen : b.r.b.length = b'.length + 1 := by rw [hb]; rfl
    rw [e2, e3]
    refine ⟨⟨h.s, ?_, h.se, h.re, h.pl, h.q, h.nx, ?_, h.ba, h.en, h.row, ?_⟩, fun p hp => ⟨?_⟩⟩
    · rw [rcvOk_iff]
      refine ⟨c1, c2, c3, c4, c5, by simp only; omega, ?_, by simp only; omega⟩
      have := rowS_drop c7 1
      rw [hb] at this; exact this
    · have := h.tk; rw [hb] at this; simpa using this
    · simp only; omega
    · rcases hp.or with ⟨q1, q2, q3⟩ | ⟨q1, q2, q3⟩
      · left; simp only; omega
      · exact .inr ⟨q1, q2, q3⟩
end Go.Proofs.Yteoepeionomjlaa
