/- A checkpoint begins. -/
import Derived.Test.YtlbdpnlmdcajbaaJ
namespace Go.Proofs.Ytlbdpnlmdcajbaa
open Go.RowKit
open Nat renaming reduceEqDiff → nA, reduceLT → nB, reduceLeDiff → nC, reduceAdd → nD, reduceMul → nE, reduceSub → nF, reduceBEq → nG
open Int renaming reduceToNat → iA, reduceLT → iB, reduceLE → iC, reduceEq → iD
open Bool renaming and_eq_true → bA, or_eq_true → bB, or_eq_false_iff → bC, and_eq_false_iff → bD, not_eq_true' → bE, not_eq_false' → bF, not_true → bG, not_false → bH
set_option linter.all false
set_option maxHeartbeats 4000000
attribute [local irreducible] AW Does ACall tE tS tB tZ
def dLK0 : List En := [(0, false, []), (1, false, []), (2, false, []), (3, false, []), (4, false, []), (5, false, []), (6, false, []), (7, false, []), (8, false, []), (9, false, []), (10, false, []), (11, false, []), (12, false, []), (13, false, []), (14, false, []), (15, false, []), (16, false, []), (17, false, []), (18, false, []), (19, false, []), (20, false, [])]
def dAK0 : List (List Nat) := [[], [0], [0, 1], [0, 1, 2], [0, 1, 2, 3], [0, 1, 2, 3, 4], [0, 1, 2, 3, 4, 5], [0, 1, 2, 3, 4, 5, 6], [0, 1, 2, 3, 4, 5, 6], [0, 1, 2, 3, 4, 5, 6, 8], [0, 1, 2, 3, 4, 5, 6, 8, 9], [0, 1, 2, 3, 4, 5, 6, 8, 9, 10], [0, 1, 2, 3, 4, 5, 6], [0, 1, 2, 3, 4, 5, 6, 12], [0, 1, 2, 3, 4, 5, 6, 8, 9, 10, 11, 12, 13], [0, 1, 2, 3, 4, 5, 6, 8, 9, 10, 11, 12, 13, 14], [0, 1, 2, 3, 4, 5, 6, 8, 9, 10, 11, 12, 13, 14, 15], [0, 1, 2, 3, 4, 5, 6, 7, 8, 9, 10, 11, 12, 13, 14, 15, 16], [0, 1, 2, 3, 4, 5, 6, 7, 8, 9, 10, 11, 12, 13, 14, 15, 16, 17], [0, 1, 2, 3, 4, 5, 6, 7, 8, 9, 10, 11, 12, 13, 14, 15, 16, 17, 18], [0, 1, 2, 3, 4, 5, 6, 7, 8, 9, 10, 11, 12, 13, 14, 15, 16, 17, 18, 19]]
attribute [push_cast] dLK0
def dLK1 : List En := [(0, false, []), (1, false, []), (2, false, []), (3, false, []), (4, false, []), (5, false, []), (6, false, []), (7, false, []), (8, false, []), (9, false, [])]
def dAK1 : List (List Nat) := [[], [0], [0, 1], [0, 1, 2], [], [4], [4, 5], [4, 5, 6], [0, 1, 2, 3, 4, 5, 6, 7], [0, 1, 2, 3, 4, 5, 6, 7, 8]]
attribute [push_cast] dLK1
def dLK2 : List En := [(0, false, []), (1, false, []), (2, false, []), (3, false, []), (4, false, []), (5, false, []), (6, false, []), (7, false, []), (8, false, []), (9, false, []), (10, false, []), (11, false, []), (12, false, []), (13, false, [])]
def dAK2 : List (List Nat) := [[], [], [1], [1, 2], [1, 2, 3], [], [], [], [5, 6, 7], [5, 6, 7, 8], [1, 2, 3, 4, 5, 6, 7, 8, 9], [0, 1, 2, 3, 4, 5, 6, 7, 8, 9, 10], [0, 1, 2, 3, 4, 5, 6, 7, 8, 9, 10, 11], [0, 1, 2, 3, 4, 5, 6, 7, 8, 9, 10, 11, 12]]
attribute [push_cast] dLK2
set_option maxRecDepth 5000

def Cd.fits (c : Cd) : Prop := (0 ≤ c.counter ∧ c.counter ≤ 18446744073709551615) ∧ ∀ p ∈ c.pend, p.fits
def lateB (l : List Pd) (now : Int) : Bool := match l.getLast? with | some p => decide (now < p.begun) | none => false
def trigE (c : Cd) (now : Int) : Int := if (decide (0 ≤ now) && decide (now ≤ 1099511627776)) = false then 2 else if lateB c.pend now = true then 2 else if c.pend.length = 2 ∨ c.counter = 2147483647 then 6 else 0
def trigC (c : Cd) (now : Int) (save : Bool) : Cd := { c with counter := c.counter + 1, pend := c.pend ++ [⟨numS c.epoch (c.counter + 1), now, save, []⟩] }
theorem lateB_nil (now : Int) : lateB [] now = false := rfl
theorem lateB_at {l : List Pd} {p : Pd} (h : l[l.length - 1]? = some p) (now : Int) : lateB l now = decide (now < p.begun) := by
  unfold lateB; rw [List.getLast?_eq_getElem?, h]
theorem OwnP.at {x : AV} {l : List Pd} {A K : Heap} (h : OwnP x l A K) (hl : 0 < l.length) : ∃ np cap R y p, x = .s np 4 0 l.length cap ∧ A np = some (.r 61 4 cap R) ∧ l[l.length - 1]? = some p ∧ R[l.length - 1]? = some (encP (y, p)) := by
  obtain ⟨L, rfl, A1, h1, h2⟩ := h
  rw [List.length_map] at *
  rcases h1.split with ⟨ad, rfl, e, rfl⟩ | ⟨np, cap, rfl, rfl, hnp⟩
  · rw [List.map_eq_nil_iff.1 e] at hl; simp at hl
  · obtain ⟨q, hq⟩ : ∃ q, L[L.length - 1]? = some q := ⟨_, List.getElem?_eq_getElem (by omega)⟩
    exact ⟨np, cap, L.map encP, q.1, q.2, by rw [List.length_map], upd_same _ _ _, by rw [List.getElem?_map, hq]; rfl, by rw [List.getElem?_map, hq]; rfl⟩
theorem upd_swap (G : Heap) {nb m2 : Nat} (h : nb ≠ m2) {a c d : Blk} : upd (upd (upd G nb a) m2 c) nb d = upd (upd G m2 c) nb d := by
  funext q; simp only [upd]; by_cases e1 : q = nb <;> by_cases e2 : q = m2 <;> simp [e1, e2, h]
theorem trig1_a (c : Cd) (hl : c.pend.length ≤ 2) (hc0 : 0 ≤ c.epoch) (hc1 : 0 ≤ c.counter) (hc2 : c.counter ≤ 2147483647) (now : Int) (save : Bool) (x : AV) (A : Heap) (nb : Nat) (G : Heap) (hnb : G nb = none) (m1 m2 m3 : Nat) (h1 : G m1 = some (.r 2 1 1 [[.c (.int .i64 now)]])) (h2 : G m2 = some (.r 25 1 1 [[.c (.int .u64 0)]])) (h3 : G m3 = some (.r 4 1 1 [[.c (.bool save)]])) (m12 : ¬ m1 = m2) (m32 : ¬ m3 = m2) (h : OwnP x c.pend A (upd G nb (bxC c x))) :
    ACall Try.prog 61 ([.p nb 6 0 0] ++ [.p m1 1 0 0, .p m2 1 0 0, .p m3 1 0 0]) A fun r A' => r = .c (.int .i64 (trigE c now)) ∧ ((trigE c now = 0 ∧ ∃ x' G', G' = upd G m2 (.r 25 1 1 [[.c (.int .u64 (numS c.epoch (c.counter + 1)))]]) ∧ G' nb = none ∧ OwnP x' (trigC c now save).pend A' (upd G' nb (bxC (trigC c now save) x'))) ∨ (¬ trigE c now = 0 ∧ ∃ G', G' = G ∧ Heap.le G' A')) := by
  have b1 : ¬ m1 = nb := by rintro rfl; rw [h1] at hnb; cases hnb
  have b2 : ¬ m2 = nb := by rintro rfl; rw [h2] at hnb; cases hnb
  have b3 : ¬ m3 = nb := by rintro rfl; rw [h3] at hnb; cases hnb
  have b2' : ¬ nb = m2 := fun e => b2 e.symm
  have kb := (OwnP_loc x c.pend).get h (upd_same _ _ _)
  have k1 := (OwnP_loc x c.pend).get h (m := m1) (by rw [upd_ne b1]; exact h1)
  have k2 := (OwnP_loc x c.pend).get h (m := m2) (by rw [upd_ne b2]; exact h2)
  have k3 := (OwnP_loc x c.pend).get h (m := m3) (by rw [upd_ne b3]; exact h3)
  have hxcs := h.cs
  have hxone := h.one
  have hxlen := h.len
  have hle : Heap.le G A := Heap.le_trans (le_upd_new hnb) ((OwnP_loc x c.pend).le h)
  have key : (c.pend.length = 0 ∧ c.pend = []) ∨ (0 < c.pend.length ∧ ∃ np cap R y p, x = .s np 4 0 c.pend.length cap ∧ A np = some (.r 61 4 cap R) ∧ c.pend[c.pend.length - 1]? = some p ∧ R[c.pend.length - 1]? = some (encP (y, p))) := by
    rcases Nat.eq_zero_or_pos c.pend.length with e | e
    · exact .inl ⟨e, List.length_eq_zero_iff.1 e⟩
    · exact .inr ⟨e, h.at e⟩
  have hE : trigE c now = if (decide (0 ≤ now) && decide (now ≤ 1099511627776)) = false then 2 else if lateB c.pend now = true then 2 else if c.pend.length = 2 ∨ c.counter = 2147483647 then 6 else 0 := rfl
  have hC : (trigC c now save) = { c with counter := c.counter + 1, pend := c.pend ++ [⟨numS c.epoch (c.counter + 1), now, save, []⟩] } := rfl
  generalize trigE c now = E at *
  obtain ⟨Q, hQ⟩ : ∃ Q : AV → Heap → Prop, Q = fun r A' => r = .c (.int .i64 E) ∧ ((E = 0 ∧ ∃ x' G', G' = upd G m2 (.r 25 1 1 [[.c (.int .u64 (numS c.epoch (c.counter + 1)))]]) ∧ G' nb = none ∧ OwnP x' (trigC c now save).pend A' (upd G' nb (bxC (trigC c now save) x'))) ∨ (¬ E = 0 ∧ ∃ G', G' = G ∧ Heap.le G' A')) := ⟨_, rfl⟩
  rw [← hQ]
  have hbad : ¬ E = 0 → Q (.c (.int .i64 E)) A := fun he => by rw [hQ]; exact ⟨rfl, .inr ⟨he, G, rfl, hle⟩⟩
  have hgood : E = 0 → ∀ x' A', OwnP x' (trigC c now save).pend A' (upd (upd G m2 (.r 25 1 1 [[.c (.int .u64 (numS c.epoch (c.counter + 1)))]])) nb (bxC (trigC c now save) x')) → Q (.c (.int .i64 0)) A' := fun he x' A' ho => by rw [hQ]; subst he; exact ⟨rfl, .inl ⟨rfl, x', _, rfl, by rw [upd_ne b2']; exact hnb, ho⟩⟩
  clear hQ hle
  rw [hC] at hgood
  clear hC
  obtain ⟨c0, c1, c2, c3, c4, l⟩ := c
  simp only [bxC, Cd.cl] at kb
  simp only [List.cons_append, List.nil_append] at *
  have hll : (l.length : Int) ≤ 2 := by omega
  have hn := Number_p c0 (c1 + 1) hc0 (by omega)
  have hcw : IntKind.u64.wrap (c1 + 1) = c1 + 1 := wrap_u64 (by omega) (by omega)
  generalize numS c0 (c1 + 1) = N at *
  replace h := Lib.hid h
  replace hbad := Lib.hid hbad
  replace hgood := Lib.hid hgood
  cases hW : (decide (0 ≤ now) && decide (now ≤ 1099511627776))
  · rw [hW, if_pos rfl] at hE
    subst hE
    clear key
    refine ACall_of' Try.func61 rfl (Ent_of Try.func61 (by kernel_rfl) rfl) (by simp [Try.ntmps61]) ?_; simp only [Try.ntmps61, Try.results61]
    repeat' (first
    | refine AW_seq_kn fun K hK => ?_
    | refine AW_block ?_
    | (refine does_call rfl rfl ?_; simp only [push_cast, seval, *]; refine ACall.monoP (within64_p _ _ _ _) ?_; (try simp only [push_cast, seval, *]))
    | ((first
      | refine AW_region_draw (id := 2) E0 (fun f => [].contains f) dLK0 dAK0 mixed (by kernel_rfl) ?_
      | refine AW_region_draw (id := 7) E0 (fun f => [].contains f) dLK1 dAK1 mixed (by kernel_rfl) ?_
      | refine AW_region_draw (id := 8) E0 (fun f => [].contains f) dLK2 dAK2 mixed (by kernel_rfl) ?_
      | refine AW_region E0 ?_ | refine AW_ret ?_ | refine AW_exit ?_ | refine AW_skip ?_ | unfold retQ); try simp only [push_cast, seval, *])
    | ((first | (apply AW_cond; (case hc => (simp only [push_cast, seval]; rfl))) | (apply ER_guard; (case hb => (simp only [push_cast, seval]; rfl)))); all_goals ((intro hc; first | (exfalso; simp only [push_cast, seval, *] at hc; done) | (exact absurd hc (by decide)) | ((try first | rw [Bool.not_true] at hc | rw [Bool.not_false] at hc); first | (with_reducible replace hc := tTT hc); clear hc | (with_reducible replace hc := tFF hc); clear hc | (have hp := hc; try simp only [decide_eq_true_eq, decide_eq_false_iff_not, bA, bB, bC, bD, bE, bF, bG, bH] at hp))) <;> try simp only [push_cast, seval, *]))
    | (refine Kn.go hK ?_; clear hK K)
    | refine Kn.go (by assumption) ?_
    | (intro n hn; (try simp only [upd_none2, join_none_iff, ite_none, ne_eq] at hn); (try simp only [push_cast, seval, *]))
    | (intro hc)
    | (apply ER_blk; (case hp => rfl); (case hb => (simp only [push_cast, seval]; rfl)); (case hd => (simp only [push_cast, seval]; done)); (case h => (intro hc; simp only [push_cast, seval, *]; rfl)); simp only [push_cast, seval, *])
    | fail)
    exact ⟨_, _, Weak.refl _ _, unhid hbad (by decide)⟩
  rw [hW, if_neg (by decide)] at hE
  have key2 : (l.length = 0 ∧ l = [] ∧ lateB l now = false) ∨ (0 < l.length ∧ ∃ np cap R y p, x = .s np 4 0 l.length cap ∧ A np = some (.r 61 4 cap R) ∧ R[l.length - 1]? = some (encP (y, p)) ∧ lateB l now = decide (now < p.begun)) := by
    rcases key with ⟨e1, rfl⟩ | ⟨e1, np, cap, R, y, p, g1, g2, g3, g4⟩
    · exact .inl ⟨e1, rfl, rfl⟩
    · exact .inr ⟨e1, np, cap, R, y, p, g1, g2, g4, lateB_at g3 now⟩
  clear key
  have hlw : IntKind.i64.wrap ((l.length : Int) - 1) = ((l.length - 1 : Nat) : Int) ∨ l.length = 0 := by
    rcases Nat.eq_zero_or_pos l.length with e | e
    · exact .inr e
    · left; rw [wrap_i64 (by omega) (by omega)]; omega
  cases hL : lateB l now
  rotate_left
  · rw [hL, if_pos rfl] at hE
    subst hE
    rcases key2 with ⟨-, -, e⟩ | ⟨e1, np, cap, R, y, ⟨num, bg, sv, ac⟩, rfl, g2, g3, g4⟩
    · rw [hL] at e; cases e
    rw [hL] at g4
    have hlt := of_decide_eq_true g4.symm
    simp only at hlt
    have e1I : (0 : Int) < l.length := by omega
    have hlw2 := hlw.resolve_right (by omega)
    have hi2 : ((l.length - 1 : Nat) : Int) < l.length := by omega
    simp only [encP] at g3
    clear hlw g4 hL
    refine ACall_of' Try.func61 rfl (Ent_of Try.func61 (by kernel_rfl) rfl) (by simp [Try.ntmps61]) ?_; simp only [Try.ntmps61, Try.results61]
    repeat' (first
    | refine AW_seq_kn fun K hK => ?_
    | refine AW_block ?_
    | (refine does_call rfl rfl ?_; simp only [push_cast, seval, *]; refine ACall.monoP (within64_p _ _ _ _) ?_; (try simp only [push_cast, seval, *]))
    | ((first
      | refine AW_region_draw (id := 2) E0 (fun f => [].contains f) dLK0 dAK0 mixed (by kernel_rfl) ?_
      | refine AW_region_draw (id := 7) E0 (fun f => [].contains f) dLK1 dAK1 mixed (by kernel_rfl) ?_
      | refine AW_region_draw (id := 8) E0 (fun f => [].contains f) dLK2 dAK2 mixed (by kernel_rfl) ?_
      | refine AW_region E0 ?_ | refine AW_ret ?_ | refine AW_exit ?_ | refine AW_skip ?_ | unfold retQ); try simp only [push_cast, seval, *])
    | ((first | (apply AW_cond; (case hc => (simp only [push_cast, seval]; rfl))) | (apply ER_guard; (case hb => (simp only [push_cast, seval]; rfl)))); all_goals ((intro hc; first | (exfalso; simp only [push_cast, seval, *] at hc; done) | (exact absurd hc (by decide)) | ((try first | rw [Bool.not_true] at hc | rw [Bool.not_false] at hc); first | (with_reducible replace hc := tTT hc); clear hc | (with_reducible replace hc := tFF hc); clear hc | (have hp := hc; try simp only [decide_eq_true_eq, decide_eq_false_iff_not, bA, bB, bC, bD, bE, bF, bG, bH] at hp))) <;> try simp only [push_cast, seval, *]))
    | (refine Kn.go hK ?_; clear hK K)
    | refine Kn.go (by assumption) ?_
    | (intro n hn; (try simp only [upd_none2, join_none_iff, ite_none, ne_eq] at hn); (try simp only [push_cast, seval, *]))
    | (intro hc)
    | (apply ER_blk; (case hp => rfl); (case hb => (simp only [push_cast, seval]; rfl)); (case hd => (simp only [push_cast, seval]; done)); (case h => (intro hc; simp only [push_cast, seval, *]; rfl)); simp only [push_cast, seval, *])
    | fail)
    exact ⟨_, _, Weak.refl _ _, unhid hbad (by decide)⟩
  rw [hL, if_neg (by decide)] at hE
  have hk2 : ((l.length : Int) = 2) = (l.length = 2) := by rw [eq_iff_iff]; omega
  rcases key2 with ⟨e1, -, -⟩ | ⟨e1, np, cap, R, y, ⟨num, bg, sv, ac⟩, rfl, g2, g3, g4⟩
  · have e1I : ¬ (0 : Int) < l.length := by omega
    have hk3 : ¬ (l.length : Int) = 2 := by omega
    have hk4 : ¬ l.length = 2 := by omega
    clear hlw hL hl e1 hk2
    by_cases hm : c1 = 2147483647
    · rw [if_pos (.inr hm)] at hE
      subst hE
      refine ACall_of' Try.func61 rfl (Ent_of Try.func61 (by kernel_rfl) rfl) (by simp [Try.ntmps61]) ?_; simp only [Try.ntmps61, Try.results61]
      repeat' (first
    | refine AW_seq_kn fun K hK => ?_
    | refine AW_block ?_
    | (refine does_call rfl rfl ?_; simp only [push_cast, seval, *]; refine ACall.monoP (within64_p _ _ _ _) ?_; (try simp only [push_cast, seval, *]))
    | ((first
      | refine AW_region_draw (id := 2) E0 (fun f => [].contains f) dLK0 dAK0 mixed (by kernel_rfl) ?_
      | refine AW_region_draw (id := 7) E0 (fun f => [].contains f) dLK1 dAK1 mixed (by kernel_rfl) ?_
      | refine AW_region_draw (id := 8) E0 (fun f => [].contains f) dLK2 dAK2 mixed (by kernel_rfl) ?_
      | refine AW_region E0 ?_ | refine AW_ret ?_ | refine AW_exit ?_ | refine AW_skip ?_ | unfold retQ); try simp only [push_cast, seval, *])
    | ((first | (apply AW_cond; (case hc => (simp only [push_cast, seval]; rfl))) | (apply ER_guard; (case hb => (simp only [push_cast, seval]; rfl)))); all_goals ((intro hc; first | (exfalso; simp only [push_cast, seval, *] at hc; done) | (exact absurd hc (by decide)) | ((try first | rw [Bool.not_true] at hc | rw [Bool.not_false] at hc); first | (with_reducible replace hc := tTT hc); clear hc | (with_reducible replace hc := tFF hc); clear hc | (have hp := hc; try simp only [decide_eq_true_eq, decide_eq_false_iff_not, bA, bB, bC, bD, bE, bF, bG, bH] at hp))) <;> try simp only [push_cast, seval, *]))
    | (refine Kn.go hK ?_; clear hK K)
    | refine Kn.go (by assumption) ?_
    | (intro n hn; (try simp only [upd_none2, join_none_iff, ite_none, ne_eq] at hn); (try simp only [push_cast, seval, *]))
    | (intro hc)
    | (apply ER_blk; (case hp => rfl); (case hb => (simp only [push_cast, seval]; rfl)); (case hd => (simp only [push_cast, seval]; done)); (case h => (intro hc; simp only [push_cast, seval, *]; rfl)); simp only [push_cast, seval, *])
    | fail)
      exact ⟨_, _, Weak.refl _ _, unhid hbad (by decide)⟩
    · rw [if_neg (fun h => h.elim hk4 hm)] at hE
      subst hE
      clear hbad
      refine ACall_of' Try.func61 rfl (Ent_of Try.func61 (by kernel_rfl) rfl) (by simp [Try.ntmps61]) ?_; simp only [Try.ntmps61, Try.results61]
      repeat' (first
    | refine AW_seq_kn fun K hK => ?_
    | refine AW_block ?_
    | (refine does_call rfl rfl ?_; simp only [push_cast, seval, *]; refine ACall.monoP (hn _) ?_; (try simp only [push_cast, seval, *]))
    | (refine does_call rfl rfl ?_; simp only [push_cast, seval, *]; refine ACall.monoP (within64_p _ _ _ _) ?_; (try simp only [push_cast, seval, *]))
    | ((first
      | refine AW_region_draw (id := 2) E0 (fun f => [].contains f) dLK0 dAK0 mixed (by kernel_rfl) ?_
      | refine AW_region_draw (id := 7) E0 (fun f => [].contains f) dLK1 dAK1 mixed (by kernel_rfl) ?_
      | refine AW_region_draw (id := 8) E0 (fun f => [].contains f) dLK2 dAK2 mixed (by kernel_rfl) ?_
      | refine AW_region E0 ?_ | refine AW_ret ?_ | refine AW_exit ?_ | refine AW_skip ?_ | unfold retQ); try simp only [push_cast, seval, *])
    | ((first | (apply AW_cond; (case hc => (simp only [push_cast, seval]; rfl))) | (apply ER_guard; (case hb => (simp only [push_cast, seval]; rfl)))); all_goals ((intro hc; first | (exfalso; simp only [push_cast, seval, *] at hc; done) | (exact absurd hc (by decide)) | ((try first | rw [Bool.not_true] at hc | rw [Bool.not_false] at hc); first | (with_reducible replace hc := tTT hc); clear hc | (with_reducible replace hc := tFF hc); clear hc | (have hp := hc; try simp only [decide_eq_true_eq, decide_eq_false_iff_not, bA, bB, bC, bD, bE, bF, bG, bH] at hp))) <;> try simp only [push_cast, seval, *]))
    | (refine Kn.go hK ?_; clear hK K)
    | refine Kn.go (by assumption) ?_
    | (intro n hn; (try simp only [upd_none2, join_none_iff, ite_none, ne_eq] at hn); (try simp only [push_cast, seval, *]))
    | (intro hc)
    | (apply ER_blk; (case hp => rfl); (case hb => (simp only [push_cast, seval]; rfl)); (case hd => (simp only [push_cast, seval]; done)); (case h => (intro hc; simp only [push_cast, seval, *]; rfl)); simp only [push_cast, seval, *])
    | fail)
      obtain ⟨L, hLl, A1, o1, o2⟩ := unhid h
      have q1 := (Loc.chain RP_loc L).get o2 (upd_same _ _ _)
      have q2 := (Loc.chain RP_loc L).get o2 (m := m2) (by rw [upd_ne b2]; exact h2)
      have t1 := o1.turn q1 (.r 30 6 1 [[.c (.int .u64 c0), .c (.int .u64 (c1 + 1)), .c (.int .i64 c2), .c (.int .i64 c3), .c (.int .i64 c4), x]])
      have t2 := t1.turn (m := m2) (by rw [upd_ne b2]; exact q2) (.r 25 1 1 [[.c (.int .u64 N)]])
      have hLn : L.length ≤ 2 := by have := congrArg List.length hLl; simp at this; omega
      refine does_app1 rfl rfl rfl rfl t2 (by simp only [upd_none2, push_cast, seval, *]) tE28 tS61 tB61 tZ61 rfl (by decide) ?_ ?_ ?_
      · simp only [List.length_map, maxLen]; omega
      · simp only [List.length_map]; omega
      intro x' H' hown'
      have hcs' := hown'.cs
      have hone' := hown'.one
      have k' := hown'.get (m := nb) (by rw [upd_ne b2']; exact upd_same _ _ _)
      have u1 := (((Loc.chain RP_loc L).turn o2 (upd_same _ _ _) (.r 30 6 1 [[.c (.int .u64 c0), .c (.int .u64 (c1 + 1)), .c (.int .i64 c2), .c (.int .i64 c3), .c (.int .i64 c4), x]])))
      rw [upd_upd] at u1
      have u2 := (Loc.chain RP_loc L).turn u1 (m := m2) (by rw [upd_ne b2]; exact h2) (.r 25 1 1 [[.c (.int .u64 N)]])
      have u3 := (Loc.chain RP_loc L).turn u2 (m := nb) (by rw [upd_ne b2']; exact upd_same _ _ _) (bxC ⟨c0, c1 + 1, c2, c3, c4, l ++ [⟨N, now, save, []⟩]⟩ x')
      rw [upd_swap G (Ne.symm b2)] at u3
      have hown2 := hown'.turn (m := nb) (by rw [upd_ne b2']; exact upd_same _ _ _) (bxC ⟨c0, c1 + 1, c2, c3, c4, l ++ [⟨N, now, save, []⟩]⟩ x')
      have hfin : OwnP x' (l ++ [⟨N, now, save, []⟩]) _ _ := ⟨L ++ [(.c (.slice none 0 0), ⟨N, now, save, []⟩)], by rw [List.map_append, hLl]; rfl, _, by rw [List.map_append]; exact hown2, Chain.snoc RP_loc (a := (⟨N, now, save, []⟩ : Pd)) OwnSl.nil u3⟩
      have hgo := unhid hgood rfl x' _ hfin
      clear hown' o1 o2 q1 q2 t1 t2 u1 u2 u3 hown2 hfin h hgood hLl hLn
      replace hgo := Lib.hid hgo
      (try simp only [push_cast, seval, *])
      repeat' (first
    | refine AW_seq_kn fun K hK => ?_
    | refine AW_block ?_
    | (refine does_call rfl rfl ?_; simp only [push_cast, seval, *]; refine ACall.monoP (within64_p _ _ _ _) ?_; (try simp only [push_cast, seval, *]))
    | ((first
      | refine AW_region_draw (id := 2) E0 (fun f => [].contains f) dLK0 dAK0 mixed (by kernel_rfl) ?_
      | refine AW_region_draw (id := 7) E0 (fun f => [].contains f) dLK1 dAK1 mixed (by kernel_rfl) ?_
      | refine AW_region_draw (id := 8) E0 (fun f => [].contains f) dLK2 dAK2 mixed (by kernel_rfl) ?_
      | refine AW_region E0 ?_ | refine AW_ret ?_ | refine AW_exit ?_ | refine AW_skip ?_ | unfold retQ); try simp only [push_cast, seval, *])
    | ((first | (apply AW_cond; (case hc => (simp only [push_cast, seval]; rfl))) | (apply ER_guard; (case hb => (simp only [push_cast, seval]; rfl)))); all_goals ((intro hc; first | (exfalso; simp only [push_cast, seval, *] at hc; done) | (exact absurd hc (by decide)) | ((try first | rw [Bool.not_true] at hc | rw [Bool.not_false] at hc); first | (with_reducible replace hc := tTT hc); clear hc | (with_reducible replace hc := tFF hc); clear hc | (have hp := hc; try simp only [decide_eq_true_eq, decide_eq_false_iff_not, bA, bB, bC, bD, bE, bF, bG, bH] at hp))) <;> try simp only [push_cast, seval, *]))
    | (refine Kn.go hK ?_; clear hK K)
    | refine Kn.go (by assumption) ?_
    | (intro n hn; (try simp only [upd_none2, join_none_iff, ite_none, ne_eq] at hn); (try simp only [push_cast, seval, *]))
    | (intro hc)
    | (apply ER_blk; (case hp => rfl); (case hb => (simp only [push_cast, seval]; rfl)); (case hd => (simp only [push_cast, seval]; done)); (case h => (intro hc; simp only [push_cast, seval, *]; rfl)); simp only [push_cast, seval, *])
    | fail)
      exact ⟨_, _, Weak.refl _ _, unhid hgo⟩
  · have e1I : (0 : Int) < l.length := by omega
    have hlw2 := hlw.resolve_right (by omega)
    have hi2 : ((l.length - 1 : Nat) : Int) < l.length := by omega
    rw [hL] at g4
    have hlt := of_decide_eq_false g4.symm
    simp only at hlt
    simp only [encP] at g3
    clear hlw g4 hL
    by_cases hk4 : l.length = 2
    · have hk3 : (l.length : Int) = 2 := by omega
      rw [if_pos (.inl hk4)] at hE
      subst hE
      clear hl hk2 h hgood
      replace hk4 := Lib.hid hk4
      replace hk3 := eq_true hk3
      refine ACall_of' Try.func61 rfl (Ent_of Try.func61 (by kernel_rfl) rfl) (by simp [Try.ntmps61]) ?_; simp only [Try.ntmps61, Try.results61]
      repeat' (first
    | refine AW_seq_kn fun K hK => ?_
    | refine AW_block ?_
    | (refine does_call rfl rfl ?_; simp only [push_cast, seval, *]; refine ACall.monoP (within64_p _ _ _ _) ?_; (try simp only [push_cast, seval, *]))
    | ((first
      | refine AW_region_draw (id := 2) E0 (fun f => [].contains f) dLK0 dAK0 mixed (by kernel_rfl) ?_
      | refine AW_region_draw (id := 7) E0 (fun f => [].contains f) dLK1 dAK1 mixed (by kernel_rfl) ?_
      | refine AW_region_draw (id := 8) E0 (fun f => [].contains f) dLK2 dAK2 mixed (by kernel_rfl) ?_
      | refine AW_region E0 ?_ | refine AW_ret ?_ | refine AW_exit ?_ | refine AW_skip ?_ | unfold retQ); try simp only [push_cast, seval, *])
    | ((first | (apply AW_cond; (case hc => (simp only [push_cast, seval]; rfl))) | (apply ER_guard; (case hb => (simp only [push_cast, seval]; rfl)))); all_goals ((intro hc; first | (exfalso; simp only [push_cast, seval, *] at hc; done) | (exact absurd hc (by decide)) | ((try first | rw [Bool.not_true] at hc | rw [Bool.not_false] at hc); first | (with_reducible replace hc := tTT hc); clear hc | (with_reducible replace hc := tFF hc); clear hc | (have hp := hc; try simp only [decide_eq_true_eq, decide_eq_false_iff_not, bA, bB, bC, bD, bE, bF, bG, bH] at hp))) <;> try simp only [push_cast, seval, *]))
    | (refine Kn.go hK ?_; clear hK K)
    | refine Kn.go (by assumption) ?_
    | (intro n hn; (try simp only [upd_none2, join_none_iff, ite_none, ne_eq] at hn); (try simp only [push_cast, seval, *]))
    | (intro hc)
    | (apply ER_blk; (case hp => rfl); (case hb => (simp only [push_cast, seval]; rfl)); (case hd => (simp only [push_cast, seval]; done)); (case h => (intro hc; simp only [push_cast, seval, *]; rfl)); simp only [push_cast, seval, *])
    | fail)
      exact ⟨_, _, Weak.refl _ _, unhid hbad (by decide)⟩
    have hk3 : ¬ (l.length : Int) = 2 := by omega
    by_cases hm : c1 = 2147483647
    · rw [if_pos (.inr hm)] at hE
      subst hE
      clear hl e1 hk2 h hgood
      refine ACall_of' Try.func61 rfl (Ent_of Try.func61 (by kernel_rfl) rfl) (by simp [Try.ntmps61]) ?_; simp only [Try.ntmps61, Try.results61]
      repeat' (first
    | refine AW_seq_kn fun K hK => ?_
    | refine AW_block ?_
    | (refine does_call rfl rfl ?_; simp only [push_cast, seval, *]; refine ACall.monoP (within64_p _ _ _ _) ?_; (try simp only [push_cast, seval, *]))
    | ((first
      | refine AW_region_draw (id := 2) E0 (fun f => [].contains f) dLK0 dAK0 mixed (by kernel_rfl) ?_
      | refine AW_region_draw (id := 7) E0 (fun f => [].contains f) dLK1 dAK1 mixed (by kernel_rfl) ?_
      | refine AW_region_draw (id := 8) E0 (fun f => [].contains f) dLK2 dAK2 mixed (by kernel_rfl) ?_
      | refine AW_region E0 ?_ | refine AW_ret ?_ | refine AW_exit ?_ | refine AW_skip ?_ | unfold retQ); try simp only [push_cast, seval, *])
    | ((first | (apply AW_cond; (case hc => (simp only [push_cast, seval]; rfl))) | (apply ER_guard; (case hb => (simp only [push_cast, seval]; rfl)))); all_goals ((intro hc; first | (exfalso; simp only [push_cast, seval, *] at hc; done) | (exact absurd hc (by decide)) | ((try first | rw [Bool.not_true] at hc | rw [Bool.not_false] at hc); first | (with_reducible replace hc := tTT hc); clear hc | (with_reducible replace hc := tFF hc); clear hc | (have hp := hc; try simp only [decide_eq_true_eq, decide_eq_false_iff_not, bA, bB, bC, bD, bE, bF, bG, bH] at hp))) <;> try simp only [push_cast, seval, *]))
    | (refine Kn.go hK ?_; clear hK K)
    | refine Kn.go (by assumption) ?_
    | (intro n hn; (try simp only [upd_none2, join_none_iff, ite_none, ne_eq] at hn); (try simp only [push_cast, seval, *]))
    | (intro hc)
    | (apply ER_blk; (case hp => rfl); (case hb => (simp only [push_cast, seval]; rfl)); (case hd => (simp only [push_cast, seval]; done)); (case h => (intro hc; simp only [push_cast, seval, *]; rfl)); simp only [push_cast, seval, *])
    | fail)
      exact ⟨_, _, Weak.refl _ _, unhid hbad (by decide)⟩
    · rw [if_neg (fun h => h.elim hk4 hm)] at hE
      subst hE
      clear hbad hl e1 hk2
      refine ACall_of' Try.func61 rfl (Ent_of Try.func61 (by kernel_rfl) rfl) (by simp [Try.ntmps61]) ?_; simp only [Try.ntmps61, Try.results61]
      repeat' (first
    | refine AW_seq_kn fun K hK => ?_
    | refine AW_block ?_
    | (refine does_call rfl rfl ?_; simp only [push_cast, seval, *]; refine ACall.monoP (hn _) ?_; (try simp only [push_cast, seval, *]))
    | (refine does_call rfl rfl ?_; simp only [push_cast, seval, *]; refine ACall.monoP (within64_p _ _ _ _) ?_; (try simp only [push_cast, seval, *]))
    | ((first
      | refine AW_region_draw (id := 2) E0 (fun f => [].contains f) dLK0 dAK0 mixed (by kernel_rfl) ?_
      | refine AW_region_draw (id := 7) E0 (fun f => [].contains f) dLK1 dAK1 mixed (by kernel_rfl) ?_
      | refine AW_region_draw (id := 8) E0 (fun f => [].contains f) dLK2 dAK2 mixed (by kernel_rfl) ?_
      | refine AW_region E0 ?_ | refine AW_ret ?_ | refine AW_exit ?_ | refine AW_skip ?_ | unfold retQ); try simp only [push_cast, seval, *])
    | ((first | (apply AW_cond; (case hc => (simp only [push_cast, seval]; rfl))) | (apply ER_guard; (case hb => (simp only [push_cast, seval]; rfl)))); all_goals ((intro hc; first | (exfalso; simp only [push_cast, seval, *] at hc; done) | (exact absurd hc (by decide)) | ((try first | rw [Bool.not_true] at hc | rw [Bool.not_false] at hc); first | (with_reducible replace hc := tTT hc); clear hc | (with_reducible replace hc := tFF hc); clear hc | (have hp := hc; try simp only [decide_eq_true_eq, decide_eq_false_iff_not, bA, bB, bC, bD, bE, bF, bG, bH] at hp))) <;> try simp only [push_cast, seval, *]))
    | (refine Kn.go hK ?_; clear hK K)
    | refine Kn.go (by assumption) ?_
    | (intro n hn; (try simp only [upd_none2, join_none_iff, ite_none, ne_eq] at hn); (try simp only [push_cast, seval, *]))
    | (intro hc)
    | (apply ER_blk; (case hp => rfl); (case hb => (simp only [push_cast, seval]; rfl)); (case hd => (simp only [push_cast, seval]; done)); (case h => (intro hc; simp only [push_cast, seval, *]; rfl)); simp only [push_cast, seval, *])
    | fail)
      obtain ⟨L, hLl, A1, o1, o2⟩ := unhid h
      have q1 := (Loc.chain RP_loc L).get o2 (upd_same _ _ _)
      have q2 := (Loc.chain RP_loc L).get o2 (m := m2) (by rw [upd_ne b2]; exact h2)
      have t1 := o1.turn q1 (.r 30 6 1 [[.c (.int .u64 c0), .c (.int .u64 (c1 + 1)), .c (.int .i64 c2), .c (.int .i64 c3), .c (.int .i64 c4), .s np 4 0 l.length cap]])
      have t2 := t1.turn (m := m2) (by rw [upd_ne b2]; exact q2) (.r 25 1 1 [[.c (.int .u64 N)]])
      have hLn : L.length ≤ 2 := by have := congrArg List.length hLl; simp at this; omega
      refine does_app1 rfl rfl rfl rfl t2 (by simp only [upd_none2, push_cast, seval, *]) tE28 tS61 tB61 tZ61 rfl (by decide) ?_ ?_ ?_
      · simp only [List.length_map, maxLen]; omega
      · simp only [List.length_map]; omega
      intro x' H' hown'
      have hcs' := hown'.cs
      have hone' := hown'.one
      have k' := hown'.get (m := nb) (by rw [upd_ne b2']; exact upd_same _ _ _)
      have u1 := (((Loc.chain RP_loc L).turn o2 (upd_same _ _ _) (.r 30 6 1 [[.c (.int .u64 c0), .c (.int .u64 (c1 + 1)), .c (.int .i64 c2), .c (.int .i64 c3), .c (.int .i64 c4), .s np 4 0 l.length cap]])))
      rw [upd_upd] at u1
      have u2 := (Loc.chain RP_loc L).turn u1 (m := m2) (by rw [upd_ne b2]; exact h2) (.r 25 1 1 [[.c (.int .u64 N)]])
      have u3 := (Loc.chain RP_loc L).turn u2 (m := nb) (by rw [upd_ne b2']; exact upd_same _ _ _) (bxC ⟨c0, c1 + 1, c2, c3, c4, l ++ [⟨N, now, save, []⟩]⟩ x')
      rw [upd_swap G (Ne.symm b2)] at u3
      have hown2 := hown'.turn (m := nb) (by rw [upd_ne b2']; exact upd_same _ _ _) (bxC ⟨c0, c1 + 1, c2, c3, c4, l ++ [⟨N, now, save, []⟩]⟩ x')
      have hfin : OwnP x' (l ++ [⟨N, now, save, []⟩]) _ _ := ⟨L ++ [(.c (.slice none 0 0), ⟨N, now, save, []⟩)], by rw [List.map_append, hLl]; rfl, _, by rw [List.map_append]; exact hown2, Chain.snoc RP_loc (a := (⟨N, now, save, []⟩ : Pd)) OwnSl.nil u3⟩
      have hgo := unhid hgood rfl x' _ hfin
      clear hown' o1 o2 q1 q2 t1 t2 u1 u2 u3 hown2 hfin h hgood hLl hLn
      replace hgo := Lib.hid hgo
      (try simp only [push_cast, seval, *])
      repeat' (first
    | refine AW_seq_kn fun K hK => ?_
    | refine AW_block ?_
    | (refine does_call rfl rfl ?_; simp only [push_cast, seval, *]; refine ACall.monoP (within64_p _ _ _ _) ?_; (try simp only [push_cast, seval, *]))
    | ((first
      | refine AW_region_draw (id := 2) E0 (fun f => [].contains f) dLK0 dAK0 mixed (by kernel_rfl) ?_
      | refine AW_region_draw (id := 7) E0 (fun f => [].contains f) dLK1 dAK1 mixed (by kernel_rfl) ?_
      | refine AW_region_draw (id := 8) E0 (fun f => [].contains f) dLK2 dAK2 mixed (by kernel_rfl) ?_
      | refine AW_region E0 ?_ | refine AW_ret ?_ | refine AW_exit ?_ | refine AW_skip ?_ | unfold retQ); try simp only [push_cast, seval, *])
    | ((first | (apply AW_cond; (case hc => (simp only [push_cast, seval]; rfl))) | (apply ER_guard; (case hb => (simp only [push_cast, seval]; rfl)))); all_goals ((intro hc; first | (exfalso; simp only [push_cast, seval, *] at hc; done) | (exact absurd hc (by decide)) | ((try first | rw [Bool.not_true] at hc | rw [Bool.not_false] at hc); first | (with_reducible replace hc := tTT hc); clear hc | (with_reducible replace hc := tFF hc); clear hc | (have hp := hc; try simp only [decide_eq_true_eq, decide_eq_false_iff_not, bA, bB, bC, bD, bE, bF, bG, bH] at hp))) <;> try simp only [push_cast, seval, *]))
    | (refine Kn.go hK ?_; clear hK K)
    | refine Kn.go (by assumption) ?_
    | (intro n hn; (try simp only [upd_none2, join_none_iff, ite_none, ne_eq] at hn); (try simp only [push_cast, seval, *]))
    | (intro hc)
    | (apply ER_blk; (case hp => rfl); (case hb => (simp only [push_cast, seval]; rfl)); (case hd => (simp only [push_cast, seval]; done)); (case h => (intro hc; simp only [push_cast, seval, *]; rfl)); simp only [push_cast, seval, *])
    | fail)
      exact ⟨_, _, Weak.refl _ _, unhid hgo⟩
end Go.Proofs.Ytlbdpnlmdcajbaa
