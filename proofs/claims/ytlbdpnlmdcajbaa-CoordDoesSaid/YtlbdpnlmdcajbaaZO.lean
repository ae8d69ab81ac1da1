/- What an op names; its ack. -/
import Derived.Test.YtlbdpnlmdcajbaaZI
import Derived.Test.YtlbdpnlmdcajbaaL
namespace Go.Proofs.Ytlbdpnlmdcajbaa
open Go.RowKit
open Nat renaming reduceEqDiff → nA, reduceLT → nB, reduceLeDiff → nC, reduceAdd → nD, reduceMul → nE, reduceSub → nF, reduceBEq → nG
open Int renaming reduceToNat → iA, reduceLT → iB, reduceLE → iC, reduceEq → iD
open Bool renaming and_eq_true → bA, or_eq_true → bB, or_eq_false_iff → bC, and_eq_false_iff → bD, not_eq_true' → bE, not_eq_false' → bF, not_true → bG, not_false → bH
set_option linter.all false
set_option maxHeartbeats 4000000
attribute [local irreducible] AW Does ACall tE tS tB tZ
def dLZO0 : List En := [(0, false, []), (1, false, []), (2, false, []), (3, false, []), (4, false, []), (5, false, []), (6, false, []), (7, false, []), (8, false, []), (9, false, [])]
def dAZO0 : List (List Nat) := [[], [0], [], [2], [], [2, 3, 4], [0, 1, 2, 3, 4, 5], [0, 1, 2, 3, 4, 5, 6], [0, 1, 2, 3, 4, 5, 6, 7], [0, 1, 2, 3, 4, 5, 6, 7, 8]]
attribute [push_cast] dLZO0
def dLZO1 : List En := [(0, false, []), (1, false, []), (2, true, []), (4, false, []), (5, false, []), (6, false, []), (7, false, []), (8, false, []), (9, false, []), (10, false, []), (11, false, []), (12, false, []), (3, false, []), (13, false, [2]), (14, false, []), (15, false, [])]
def dAZO1 : List (List Nat) := [[], [0], [0, 1], [], [], [4], [4, 5], [], [7], [7, 8], [7, 8, 9], [7, 8, 9, 10], [4, 5, 6, 7, 8, 9, 10, 11], [3, 4, 5, 6, 7, 8, 9, 10, 11, 12], [0, 1, 2, 3, 4, 5, 6, 7, 8, 9, 10, 11, 12, 13], [0, 1, 2, 3, 4, 5, 6, 7, 8, 9, 10, 11, 12, 13, 14]]
attribute [push_cast] dLZO1
set_option maxRecDepth 5000

def numO (o : Op22) (c : Cd) : Int := if 0 < c.pend.length ∧ 0 ≤ o.at_ then ((c.pend[(o.at_ % c.pend.length).toNat]?).map Pd.num).getD 0 else IntKind.u64.wrap o.at_
theorem number_p (o : Op22) (c : Cd) (hl : c.pend.length ≤ maxLen) : Pure Try.prog 25 [.g (Op22.av o), .g (Cd.av c)] (.c (.int .u64 (numO o c))) := by
  intro H
  unfold numO
  obtain ⟨kd, at_, now, sv, ts, an, ak⟩ := o
  obtain ⟨e, k0, t, a, s, l⟩ := c
  simp only at hl
  unfold maxLen at hl
  simp only [Op22.av, Cd.av]
  by_cases h0 : 0 < l.length
  · have h0I : (0 : Int) < l.length := by omega
    by_cases h1 : 0 ≤ at_
    · rw [if_pos ⟨h0, h1⟩]
      have hm : at_.tmod (l.length : Int) = ((at_ % l.length).toNat : Int) := by
        rw [Int.tmod_eq_emod_of_nonneg h1, Int.toNat_of_nonneg (Int.emod_nonneg _ (by omega))]
      have hlt : (at_ % l.length).toNat < l.length := by have := Int.emod_lt_of_pos at_ h0I; omega
      generalize (at_ % l.length).toNat = i at *
      have hiI : (i : Int) < l.length := by omega
      have hne : ¬ (l.length : Int) = 0 := by omega
      obtain ⟨p, hp⟩ : ∃ p, l[i]? = some p := ⟨_, List.getElem?_eq_getElem hlt⟩
      rw [hp]
      obtain ⟨num, bg, ps, ac⟩ := p
      have hav : Pd.av ⟨num, bg, ps, ac⟩ = [.c (.int .u64 num), .c (.int .i64 bg), .c (.bool ps), .l 2 (ac.map Ak.av)] := rfl
      clear hlt h0
      refine ACall_of' Try.func25 rfl (Ent_of Try.func25 (by kernel_rfl) rfl) (by simp [Try.ntmps25]) ?_; simp only [Try.ntmps25, Try.results25]
      repeat' (first
    | refine AW_seq_kn fun K hK => ?_
    | refine AW_block ?_
    | ((first
      | refine AW_region_draw (id := 3) E0 (fun f => [].contains f) dLZO0 dAZO0 mixed (by kernel_rfl) ?_
      | refine AW_region E0 ?_ | refine AW_ret ?_ | refine AW_exit ?_ | refine AW_skip ?_ | unfold retQ); try simp only [push_cast, seval, *])
    | ((first | (apply AW_cond; (case hc => (simp only [push_cast, seval]; rfl))) | (apply ER_guard; (case hb => (simp only [push_cast, seval]; rfl)))); all_goals ((intro hc; first | (exfalso; simp only [push_cast, seval, *] at hc; done) | (exact absurd hc (by decide)) | ((try first | rw [Bool.not_true] at hc | rw [Bool.not_false] at hc); first | (with_reducible replace hc := tTT hc); clear hc | (with_reducible replace hc := tFF hc); clear hc | (have hp := hc; try simp only [decide_eq_true_eq, decide_eq_false_iff_not, bA, bB, bC, bD, bE, bF, bG, bH] at hp))) <;> try simp only [push_cast, seval, *]))
    | (refine Kn.go hK ?_; clear hK K)
    | refine Kn.go (by assumption) ?_
    | (intro n hn; (try simp only [upd_none2, join_none_iff, ite_none, ne_eq] at hn); (try simp only [push_cast, seval, *]))
    | (intro hc)
    | (apply ER_blk; (case hp => rfl); (case hb => (simp only [push_cast, seval]; rfl)); (case hd => (simp only [push_cast, seval]; done)); (case h => (intro hc; simp only [push_cast, seval, *]; rfl)); simp only [push_cast, seval, *])
    | fail)
      exact ⟨_, _, Weak.less (by (simp only [push_cast, seval, *])), rfl, rfl⟩
    · rw [if_neg (fun h => h1 h.2)]
      refine ACall_of' Try.func25 rfl (Ent_of Try.func25 (by kernel_rfl) rfl) (by simp [Try.ntmps25]) ?_; simp only [Try.ntmps25, Try.results25]
      repeat' (first
    | refine AW_seq_kn fun K hK => ?_
    | refine AW_block ?_
    | ((first
      | refine AW_region_draw (id := 3) E0 (fun f => [].contains f) dLZO0 dAZO0 mixed (by kernel_rfl) ?_
      | refine AW_region E0 ?_ | refine AW_ret ?_ | refine AW_exit ?_ | refine AW_skip ?_ | unfold retQ); try simp only [push_cast, seval, *])
    | ((first | (apply AW_cond; (case hc => (simp only [push_cast, seval]; rfl))) | (apply ER_guard; (case hb => (simp only [push_cast, seval]; rfl)))); all_goals ((intro hc; first | (exfalso; simp only [push_cast, seval, *] at hc; done) | (exact absurd hc (by decide)) | ((try first | rw [Bool.not_true] at hc | rw [Bool.not_false] at hc); first | (with_reducible replace hc := tTT hc); clear hc | (with_reducible replace hc := tFF hc); clear hc | (have hp := hc; try simp only [decide_eq_true_eq, decide_eq_false_iff_not, bA, bB, bC, bD, bE, bF, bG, bH] at hp))) <;> try simp only [push_cast, seval, *]))
    | (refine Kn.go hK ?_; clear hK K)
    | refine Kn.go (by assumption) ?_
    | (intro n hn; (try simp only [upd_none2, join_none_iff, ite_none, ne_eq] at hn); (try simp only [push_cast, seval, *]))
    | (intro hc)
    | (apply ER_blk; (case hp => rfl); (case hb => (simp only [push_cast, seval]; rfl)); (case hd => (simp only [push_cast, seval]; done)); (case h => (intro hc; simp only [push_cast, seval, *]; rfl)); simp only [push_cast, seval, *])
    | fail)
      exact ⟨_, _, Weak.less (by (simp only [push_cast, seval, *])), rfl, rfl⟩
  · rw [if_neg (fun h => h0 h.1)]
    have h0I : ¬ (0 : Int) < l.length := by omega
    refine ACall_of' Try.func25 rfl (Ent_of Try.func25 (by kernel_rfl) rfl) (by simp [Try.ntmps25]) ?_; simp only [Try.ntmps25, Try.results25]
    repeat' (first
    | refine AW_seq_kn fun K hK => ?_
    | refine AW_block ?_
    | ((first
      | refine AW_region_draw (id := 3) E0 (fun f => [].contains f) dLZO0 dAZO0 mixed (by kernel_rfl) ?_
      | refine AW_region E0 ?_ | refine AW_ret ?_ | refine AW_exit ?_ | refine AW_skip ?_ | unfold retQ); try simp only [push_cast, seval, *])
    | ((first | (apply AW_cond; (case hc => (simp only [push_cast, seval]; rfl))) | (apply ER_guard; (case hb => (simp only [push_cast, seval]; rfl)))); all_goals ((intro hc; first | (exfalso; simp only [push_cast, seval, *] at hc; done) | (exact absurd hc (by decide)) | ((try first | rw [Bool.not_true] at hc | rw [Bool.not_false] at hc); first | (with_reducible replace hc := tTT hc); clear hc | (with_reducible replace hc := tFF hc); clear hc | (have hp := hc; try simp only [decide_eq_true_eq, decide_eq_false_iff_not, bA, bB, bC, bD, bE, bF, bG, bH] at hp))) <;> try simp only [push_cast, seval, *]))
    | (refine Kn.go hK ?_; clear hK K)
    | refine Kn.go (by assumption) ?_
    | (intro n hn; (try simp only [upd_none2, join_none_iff, ite_none, ne_eq] at hn); (try simp only [push_cast, seval, *]))
    | (intro hc)
    | (apply ER_blk; (case hp => rfl); (case hb => (simp only [push_cast, seval]; rfl)); (case hd => (simp only [push_cast, seval]; done)); (case h => (intro hc; simp only [push_cast, seval, *]; rfl)); simp only [push_cast, seval, *])
    | fail)
    exact ⟨_, _, Weak.less (by (simp only [push_cast, seval, *])), rfl, rfl⟩
def opAck (o : Op22) : Ak := shA o.ack
theorem min_3001 (n : Nat) : ∃ mm : Nat, (if (3001 : Int) < n then (3001 : Int) else (n : Int)) = (mm : Int) ∧ mm ≤ n ∧ mm ≤ 3001 ∧ (∀ {α : Type} (l : List α), l.length = n → l.take 3001 = l.take mm) := by
  by_cases hc : (3001 : Int) < n
  · exact ⟨3001, by rw [if_pos hc]; rfl, by omega, by omega, fun l _ => rfl⟩
  · exact ⟨n, by rw [if_neg hc], Nat.le_refl _, by omega, fun l h => by rw [List.take_of_length_le (by omega), List.take_of_length_le (by omega)]⟩
theorem opAck_o (o : Op22) (hl : o.ack.bytes.length ≤ maxLen) (H : Heap) : ACall Try.prog 29 [.g (Op22.av o)] H fun r H' => ∃ z, r = .g [.c (.int .i64 (opAck o).task), z] ∧ OwnL H' z 5 1 ((opAck o).bytes.map by1) H := by
  obtain ⟨kd, at_, now, sv, ts, an, ⟨task, bs⟩⟩ := o
  simp only at hl
  unfold maxLen at hl
  simp only [Op22.av, opAck, shA]
  obtain ⟨mm, hmm, hml, hm3, hmt⟩ := min_3001 bs.length
  rw [hmt bs rfl]
  have hmI : (mm : Int) ≤ bs.length := by omega
  clear hmt
  refine ACall_of' Try.func29 rfl (Ent_of Try.func29 (by kernel_rfl) rfl) (by simp [Try.ntmps29]) ?_; simp only [Try.ntmps29, Try.results29]
  repeat' (first
    | refine AW_seq_kn fun K hK => ?_
    | refine AW_block ?_
    | ((first
      | refine AW_region_draw (id := 1) E0 (fun f => [].contains f) dLZO1 dAZO1 mixed (by kernel_rfl) ?_
      | refine AW_region E0 ?_ | refine AW_ret ?_ | refine AW_exit ?_ | refine AW_skip ?_ | unfold retQ); try simp only [push_cast, seval, *])
    | (apply AW_cond; (case hc => (simp only [push_cast, seval]; rfl)); all_goals (intro hc; first | (exfalso; simp only [push_cast, seval, *] at hc; done) | (exact absurd hc (by decide)) | ((try first | rw [Bool.not_true] at hc | rw [Bool.not_false] at hc); first | (with_reducible replace hc := tTT hc); clear hc | (with_reducible replace hc := tFF hc); clear hc | (have hp := hc; try simp only [decide_eq_true_eq, decide_eq_false_iff_not, bA, bB, bC, bD, bE, bF, bG, bH] at hp))))
    | (refine Kn.go hK ?_; clear hK K)
    | refine Kn.go (by assumption) ?_
    | (intro n hn; (try simp only [upd_none2, join_none_iff, ite_none, ne_eq] at hn); (try simp only [push_cast, seval, *]))
    | (intro hc)
    | fail)
  rename_i n1 h1 n2 h2
  refine does_appL rfl rfl rfl (OwnL.fresh (by simp only [upd_none2]; exact hn)) tE45 tS5 tB5 tZ5 rfl (by decide) ?_ ?_ ?_
  · simp only [List.length_take, List.length_map, List.length_nil, maxLen]; omega
  · simp only [List.length_take, List.length_map, List.length_nil]; omega
  intro z H' hoz
  rw [List.nil_append, ← List.map_take] at hoz
  have hzcs := hoz.cs
  have hzone := hoz.one
  have k1 := hoz.get (m := n1) (k := .r 49 8 1 [[.c (.int .i64 kd), .c (.int .i64 at_), .c (.int .i64 now), .c (.bool sv), .c (.int .i64 ts), .c (.int .i64 an), .c (.int .i64 task), .l 1 (bs.map by1)]]) (by simp only [push_cast, seval, upd_get, *])
  have k2 := hoz.get (m := n2) (upd_same _ _ _)
  obtain ⟨H2, l1, l2, l3⟩ := (Loc.own z 5 1 _).cutx hoz (K := H) (le_skip0 (le_skip0 (Heap.le_refl _) h1) h2.2)
  have l4 := l3 n2 (by rw [upd_same]; simp) h2.2
  clear hoz l3
  replace l1 := Lib.hid l1
  replace l2 := Lib.hid l2
  replace l4 := Lib.hid l4
  (try simp only [push_cast, seval, *])
  repeat' (first
    | refine AW_seq_kn fun K hK => ?_
    | refine AW_block ?_
    | ((first
      | refine AW_region_draw (id := 1) E0 (fun f => [].contains f) dLZO1 dAZO1 mixed (by kernel_rfl) ?_
      | refine AW_region E0 ?_ | refine AW_ret ?_ | refine AW_exit ?_ | refine AW_skip ?_ | unfold retQ); try simp only [push_cast, seval, *])
    | (apply AW_cond; (case hc => (simp only [push_cast, seval]; rfl)); all_goals (intro hc; first | (exfalso; simp only [push_cast, seval, *] at hc; done) | (exact absurd hc (by decide)) | ((try first | rw [Bool.not_true] at hc | rw [Bool.not_false] at hc); first | (with_reducible replace hc := tTT hc); clear hc | (with_reducible replace hc := tFF hc); clear hc | (have hp := hc; try simp only [decide_eq_true_eq, decide_eq_false_iff_not, bA, bB, bC, bD, bE, bF, bG, bH] at hp))))
    | (refine Kn.go hK ?_; clear hK K)
    | refine Kn.go (by assumption) ?_
    | (intro n hn; (try simp only [upd_none2, join_none_iff, ite_none, ne_eq] at hn); (try simp only [push_cast, seval, *]))
    | (intro hc)
    | fail)
  exact ⟨_, H2, Weak.less (by repeat' (first | exact unhid l1 | refine le_skip0 ?_ (unhid l4))), z, rfl, unhid l2⟩
end Go.Proofs.Ytlbdpnlmdcajbaa
