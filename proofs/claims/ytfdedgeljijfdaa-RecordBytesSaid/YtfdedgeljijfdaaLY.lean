/- The law RecordBytes, walked. -/
import Derived.Test.YtfdedgeljijfdaaWK
import Derived.Test.YtfdedgeljijfdaaBY
import Derived.Test.YtfdedgeljijfdaaOF
import Derived.Test.YtfdedgeljijfdaaSH
namespace Go.Proofs.Ytfdedgeljijfdaa
open Go.RowKit
open Nat renaming reduceEqDiff → nA, reduceLT → nB, reduceLeDiff → nC, reduceAdd → nD, reduceMul → nE, reduceSub → nF, reduceBEq → nG
open Int renaming reduceToNat → iA, reduceLT → iB, reduceLE → iC, reduceEq → iD
open Bool renaming and_eq_true → bA, or_eq_true → bB, or_eq_false_iff → bC, and_eq_false_iff → bD, not_eq_true' → bE, not_eq_false' → bF, not_true → bG, not_false → bH
set_option linter.all false
set_option maxHeartbeats 4000000
attribute [local irreducible] AW Does ACall tE tS tB tZ
def dLLY0 : List En := [(0, false, []), (1, false, []), (3, false, []), (4, true, []), (2, false, [4]), (5, false, []), (6, false, []), (7, false, [])]
def dALY0 : List (List Nat) := [[], [], [0, 1], [], [], [0, 1, 2, 3, 4], [0, 1, 2, 3, 4, 5], [0, 1, 2, 3, 4, 5, 6]]
attribute [push_cast] dLLY0

theorem enc_right {l : List El} (h : rrS l = true) : encR l = (rowY l, 0) := by
  unfold rrS at h
  rw [Bool.and_eq_true, decide_eq_true_eq, List.all_eq_true] at h
  unfold encR
  rw [if_neg (by omega), if_neg]
  simp only [Bool.not_eq_true, List.any_eq_false]
  intro y hy
  simp [h.1 y hy]
theorem enc_wrong {l : List El} (h : rrS l = false) (h2 : ¬ 200 < l.length) : encR l = ([], 151) := by
  unfold rrS at h
  rw [Bool.and_eq_false_iff, decide_eq_false_iff_not] at h
  unfold encR
  rw [if_neg h2, if_pos]
  rcases h with h | h
  · obtain ⟨y, hy, h3⟩ := List.all_eq_false.1 h
    exact List.any_eq_true.2 ⟨y, hy, by simpa using h3⟩
  · omega
theorem recordBytes_a (l : List El) (hl : l.length ≤ maxLen) (hv : ∀ x ∈ l, El.ok x) (key : Rec) (H : Heap) :
    ACall Try.prog 6 [.l 5 (l.map El.av), .g (Rec.av key)] H fun r H' => r = .c (.bool true) := by
  have hw := wakes05_p
  unfold maxLen at hl
  have hol := ofS_len l key
  have hf1 := fun h => Of_p l h key
  have hf2 := fun h => refOf_p l h key
  have hf3 := fun h => same64_p (ofS l key) h
  obtain ⟨ks, kk, kv⟩ := key
  have hkav : Rec.av ⟨ks, kk, kv⟩ = [.c (.int .i64 ks), .c (.int .i64 kk), .c (.int .i64 kv)] := rfl
  rw [hkav] at hf1 hf2 ⊢
  clear hkav
  generalize ofS l ⟨ks, kk, kv⟩ = O at *
  by_cases h1 : 1000 < l.length
  · have h1' : (1000 : Int) < l.length := by omega
    clear hf1 hf2 hf3
    refine ACall_of' Try.func6 rfl (Ent_of Try.func6 (by kernel_rfl) rfl) (by simp [Try.ntmps6]) ?_; simp only [Try.ntmps6, Try.results6]
    repeat' (first
    | refine AW_seq_kn fun K hK => ?_
    | refine AW_block ?_
    | (refine does_call rfl rfl ?_; simp only [push_cast, seval, *]; refine ACall.monoP (wakes05_p _) ?_; (try simp only [push_cast, seval, *]))
    | ((first
      | refine AW_region_draw (id := 6) E0 (fun f => [].contains f) dLLY0 dALY0 mixed (by kernel_rfl) ?_
      | refine AW_region E0 ?_ | refine AW_ret ?_ | refine AW_exit ?_ | refine AW_skip ?_ | unfold retQ); try simp only [push_cast, seval, *])
    | ((first | (apply AW_cond; (case hc => (simp only [push_cast, seval]; rfl))) | (apply ER_guard; (case hb => (simp only [push_cast, seval]; rfl)))); all_goals ((intro hc; first | (exfalso; simp only [push_cast, seval, *] at hc; done) | (exact absurd hc (by decide)) | ((try first | rw [Bool.not_true] at hc | rw [Bool.not_false] at hc); first | (with_reducible replace hc := tTT hc); clear hc | (with_reducible replace hc := tFF hc); clear hc | (have hp := hc; try simp only [decide_eq_true_eq, decide_eq_false_iff_not, bA, bB, bC, bD, bE, bF, bG, bH] at hp))) <;> try simp only [push_cast, seval, *]))
    | (refine Kn.go hK ?_; clear hK K)
    | refine Kn.go (by assumption) ?_
    | (intro n hn; (try simp only [upd_none2, join_none_iff, ite_none, ne_eq] at hn); (try simp only [push_cast, seval, *]))
    | (intro hc)
    | (apply ER_blk; (case hp => rfl); (case hb => (simp only [push_cast, seval]; rfl)); (case hd => (simp only [push_cast, seval]; done)); (case h => (intro hc; simp only [push_cast, seval, *]; rfl)); simp only [push_cast, seval, *])
    | fail)
    exact ⟨_, _, Weak.refl _ _, rfl⟩
  have h1' : ¬ (1000 : Int) < l.length := by omega
  replace hf1 := hf1 (by omega)
  replace hf2 := hf2 (by omega)
  replace hf3 := hf3 (by unfold maxLen; omega)
  have e1 := fun x G hL => Encode_l l (by unfold maxLen; omega) (x := x) (G := G) hL
  have e2 := rightRow_p l (by unfold maxLen; omega)
  have e3 := Bytes_p l (by omega) (fun x hx => (hv x hx).1)
  have hcase : (rrS l = true ∧ encR l = (rowY l, 0)) ∨ (rrS l = false ∧ (200 : Int) < l.length ∧ encR l = ([], 3)) ∨ (rrS l = false ∧ ¬ (200 : Int) < l.length ∧ encR l = ([], 151)) := by
    cases h : rrS l
    · by_cases h2 : 200 < l.length
      · exact .inr (.inl ⟨rfl, by omega, if_pos h2⟩)
      · exact .inr (.inr ⟨rfl, by omega, enc_wrong h h2⟩)
    · exact .inl ⟨rfl, enc_right h⟩
  have hyl : (rowY l).length ≤ maxLen := by
    have := flat_len l
    simp only [rowY, List.length_cons, maxLen]; omega
  have e4 := sameBy_p (rowY l) hyl
  generalize rowY l = Y at *
  rcases hcase with ⟨h2, h3⟩ | ⟨h2, h4, h3⟩ | ⟨h2, h4, h3⟩
  all_goals
    rw [h2] at e2
    rw [h3] at e1
    simp only [List.map_nil] at e1
    replace e1 := Lib.hid e1
    clear h2 h3 hyl
    refine ACall_of' Try.func6 rfl (Ent_of Try.func6 (by kernel_rfl) rfl) (by simp [Try.ntmps6]) ?_; simp only [Try.ntmps6, Try.results6]
    repeat' (first
    | refine AW_seq_kn fun K hK => ?_
    | refine AW_block ?_
    | (refine does_call rfl rfl ?_; simp only [push_cast, seval, *]; refine ACall.monoP (wakes05_p _) ?_; (try simp only [push_cast, seval, *]))
    | ((first
      | refine AW_region_draw (id := 6) E0 (fun f => [].contains f) dLLY0 dALY0 mixed (by kernel_rfl) ?_
      | refine AW_region E0 ?_ | refine AW_ret ?_ | refine AW_exit ?_ | refine AW_skip ?_ | unfold retQ); try simp only [push_cast, seval, *])
    | ((first | (apply AW_cond; (case hc => (simp only [push_cast, seval]; rfl))) | (apply ER_guard; (case hb => (simp only [push_cast, seval]; rfl)))); all_goals ((intro hc; first | (exfalso; simp only [push_cast, seval, *] at hc; done) | (exact absurd hc (by decide)) | ((try first | rw [Bool.not_true] at hc | rw [Bool.not_false] at hc); first | (with_reducible replace hc := tTT hc); clear hc | (with_reducible replace hc := tFF hc); clear hc | (have hp := hc; try simp only [decide_eq_true_eq, decide_eq_false_iff_not, bA, bB, bC, bD, bE, bF, bG, bH] at hp))) <;> try simp only [push_cast, seval, *]))
    | (refine Kn.go hK ?_; clear hK K)
    | refine Kn.go (by assumption) ?_
    | (intro n hn; (try simp only [upd_none2, join_none_iff, ite_none, ne_eq] at hn); (try simp only [push_cast, seval, *]))
    | (intro hc)
    | (apply ER_blk; (case hp => rfl); (case hb => (simp only [push_cast, seval]; rfl)); (case hd => (simp only [push_cast, seval]; done)); (case h => (intro hc; simp only [push_cast, seval, *]; rfl)); simp only [push_cast, seval, *])
    | fail)
    refine does_appendL (rows := []) (news := l.map El.av) (OwnL.fresh (by first | exact hn | exact hn.2 | (simp only [upd_none2, *]; done) | (rw [upd_ne (by simp [*])]; simp [*]))) rfl rfl tE24 tS37 tB37 tZ37 rfl (by decide) ?_ ?_ ?_
    · simp only [List.length_map, List.length_nil, maxLen]; omega
    · simp only [List.length_map, List.length_nil]; omega
    intro x1 B1 hown
    rename_i nk hnk
    have hBk := hown.get (upd_same _ _ _)
    rw [List.nil_append] at hown
    have hcs := hown.cs
    have hd := unhid e1 x1 B1 hown.lent
    clear e1 hown hn hnk hv
    (try simp only [push_cast, seval, *])
    repeat' (first
    | refine AW_seq_kn fun K hK => ?_
    | refine AW_block ?_
    | (refine does_call rfl rfl ?_; simp only [push_cast, seval, *]; refine ACall.mono hd ?_; (rintro _ _ ⟨rfl, e2⟩; have e3 := e2.symm; clear e2; subst e3); (try simp only [push_cast, seval, *]))
    | (refine does_call rfl rfl ?_; simp only [push_cast, seval, *]; refine ACall.monoP (hf1 _) ?_; (try simp only [push_cast, seval, *]))
    | (refine does_call rfl rfl ?_; simp only [push_cast, seval, *]; refine ACall.monoP (hf2 _) ?_; (try simp only [push_cast, seval, *]))
    | (refine does_call rfl rfl ?_; simp only [push_cast, seval, *]; refine ACall.monoP (hf3 _) ?_; (try simp only [push_cast, seval, *]))
    | (refine does_call rfl rfl ?_; simp only [push_cast, seval, *]; refine ACall.monoP (e2 _) ?_; (try simp only [push_cast, seval, *]))
    | (refine does_call rfl rfl ?_; simp only [push_cast, seval, *]; refine ACall.monoP (e3 _) ?_; (try simp only [push_cast, seval, *]))
    | (refine does_call rfl rfl ?_; simp only [push_cast, seval, *]; refine ACall.monoP (e4 _) ?_; (try simp only [push_cast, seval, *]))
    | (refine does_call rfl rfl ?_; simp only [push_cast, seval, *]; refine ACall.monoP (wakes05_p _) ?_; (try simp only [push_cast, seval, *]))
    | ((first
      | refine AW_region_draw (id := 6) E0 (fun f => [].contains f) dLLY0 dALY0 mixed (by kernel_rfl) ?_
      | refine AW_region E0 ?_ | refine AW_ret ?_ | refine AW_exit ?_ | refine AW_skip ?_ | unfold retQ); try simp only [push_cast, seval, *])
    | ((first | (apply AW_cond; (case hc => (simp only [push_cast, seval]; rfl))) | (apply ER_guard; (case hb => (simp only [push_cast, seval]; rfl)))); all_goals ((intro hc; first | (exfalso; simp only [push_cast, seval, *] at hc; done) | (exact absurd hc (by decide)) | ((try first | rw [Bool.not_true] at hc | rw [Bool.not_false] at hc); first | (with_reducible replace hc := tTT hc); clear hc | (with_reducible replace hc := tFF hc); clear hc | (have hp := hc; try simp only [decide_eq_true_eq, decide_eq_false_iff_not, bA, bB, bC, bD, bE, bF, bG, bH] at hp))) <;> try simp only [push_cast, seval, *]))
    | (refine Kn.go hK ?_; clear hK K)
    | refine Kn.go (by assumption) ?_
    | (intro n hn; (try simp only [upd_none2, join_none_iff, ite_none, ne_eq] at hn); (try simp only [push_cast, seval, *]))
    | (intro hc)
    | (apply ER_blk; (case hp => rfl); (case hb => (simp only [push_cast, seval]; rfl)); (case hd => (simp only [push_cast, seval]; done)); (case h => (intro hc; simp only [push_cast, seval, *]; rfl)); simp only [push_cast, seval, *])
    | fail)
    exact ⟨_, _, Weak.refl _ _, by first | rfl | simp [*]⟩
end Go.Proofs.Ytfdedgeljijfdaa
