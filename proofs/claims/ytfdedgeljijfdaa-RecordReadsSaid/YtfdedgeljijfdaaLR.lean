/- The law RecordReads, walked. -/
import Derived.Test.YtfdedgeljijfdaaWK
import Derived.Test.YtfdedgeljijfdaaFD
import Derived.Test.YtfdedgeljijfdaaSH
namespace Go.Proofs.Ytfdedgeljijfdaa
open Go.RowKit
open Nat renaming reduceEqDiff → nA, reduceLT → nB, reduceLeDiff → nC, reduceAdd → nD, reduceMul → nE, reduceSub → nF, reduceBEq → nG
open Int renaming reduceToNat → iA, reduceLT → iB, reduceLE → iC, reduceEq → iD
open Bool renaming and_eq_true → bA, or_eq_true → bB, or_eq_false_iff → bC, and_eq_false_iff → bD, not_eq_true' → bE, not_eq_false' → bF, not_true → bG, not_false → bH
set_option linter.all false
set_option maxHeartbeats 4000000
attribute [local irreducible] AW Does ACall tE tS tB tZ
def dLLR0 : List En := [(0, false, []), (1, false, []), (2, false, []), (3, false, []), (4, false, []), (5, false, []), (6, false, []), (7, false, []), (8, false, [])]
def dALR0 : List (List Nat) := [[], [], [0, 1], [0, 1, 2], [], [], [4, 5], [4, 5, 6], [0, 1, 2, 3, 4, 5, 6, 7]]
attribute [push_cast] dLLR0

theorem refDecode_p (b : List Int) (ho : octs b) (hb : b.length ≤ 900000) : Pure Try.prog 10 [.l 1 (b.map by1)] (.t [.l 5 ((decR b).1.map El.av), .c (.int .i64 (decR b).2)]) := fun H =>
  ACall.weak ((refDecode_g b ho hb H).mono fun q H' h => by
    obtain ⟨y, rfl, h1⟩ := h
    exact ⟨_, _, weak_t2 h1, rfl, rfl⟩)
theorem sameEl_p (l : List El) (hl : l.length ≤ maxLen) : Pure Try.prog 11 [.l 5 (l.map El.av), .l 5 (l.map El.av)] (.c (.bool true)) := by
  intro H
  unfold maxLen at hl
  refine ACall_of' Try.func11 rfl (Ent_of Try.func11 (by kernel_rfl) rfl) (by simp [Try.ntmps11]) ?_; simp only [Try.ntmps11, Try.results11]
  repeat' (first
    | refine AW_seq_kn fun K hK => ?_
    | refine AW_block ?_
    | ((first
      | refine AW_region_draw (id := 6) E0 (fun f => [].contains f) dLLR0 dALR0 mixed (by kernel_rfl) ?_
      | refine AW_region E0 ?_ | refine AW_ret ?_ | refine AW_exit ?_ | refine AW_skip ?_ | unfold retQ); try simp only [push_cast, seval, *])
    | (apply AW_cond; (case hc => (simp only [push_cast, seval]; rfl)); all_goals (intro hc; first | (exfalso; simp only [push_cast, seval, *] at hc; done) | (exact absurd hc (by decide)) | ((try first | rw [Bool.not_true] at hc | rw [Bool.not_false] at hc); first | (with_reducible replace hc := tTT hc); clear hc | (with_reducible replace hc := tFF hc); clear hc | (have hp := hc; try simp only [decide_eq_true_eq, decide_eq_false_iff_not, bA, bB, bC, bD, bE, bF, bG, bH] at hp))))
    | (refine Kn.go hK ?_; clear hK K)
    | refine Kn.go (by assumption) ?_
    | (intro n hn; (try simp only [upd_none2, join_none_iff, ite_none, ne_eq] at hn); (try simp only [push_cast, seval, *]))
    | (intro hc)
    | fail)
  refine AW_loopN l.length (fun _ => True) (fun k => [(0, .l 5 (l.map El.av)), (1, .l 5 (l.map El.av)), (5, ci k)]) (fun _ => H) trivial ?_ ?_ ?_ ?_
  · (first | trivial | (simp only [push_cast, seval, *]; done))
  · exact Heap.le_refl _
  · rintro k hk -
    have hx := List.getElem?_eq_getElem (l := l) hk; generalize l[k] = x at hx; have hxm := List.mem_of_getElem? hx; have hkl : (k : Int) < l.length := (by omega); have hkw : IntKind.i64.wrap ((k : Int) + 1) = (k : Int) + 1 := wrap_i64 (by omega) (by omega)
    obtain ⟨kd, s, kk, vv, nm⟩ := x
    have hav : El.av ⟨kd, s, kk, vv, nm⟩ = [.c (.int .i64 kd), .c (.int .i64 s), .c (.int .i64 kk), .c (.int .i64 vv), .c (.int .u64 nm)] := rfl
    clear hxm
    repeat' (first
    | refine AW_seq_kn fun K hK => ?_
    | refine AW_block ?_
    | ((first
      | refine AW_region_draw (id := 6) E0 (fun f => [].contains f) dLLR0 dALR0 mixed (by kernel_rfl) ?_
      | refine AW_region E0 ?_ | refine AW_ret ?_ | refine AW_exit ?_ | refine AW_skip ?_ | unfold retQ); try simp only [push_cast, seval, *])
    | (apply AW_cond; (case hc => (simp only [push_cast, seval]; rfl)); all_goals (intro hc; first | (exfalso; simp only [push_cast, seval, *] at hc; done) | (exact absurd hc (by decide)) | ((try first | rw [Bool.not_true] at hc | rw [Bool.not_false] at hc); first | (with_reducible replace hc := tTT hc); clear hc | (with_reducible replace hc := tFF hc); clear hc | (have hp := hc; try simp only [decide_eq_true_eq, decide_eq_false_iff_not, bA, bB, bC, bD, bE, bF, bG, bH] at hp))))
    | (refine Kn.go hK ?_; clear hK K)
    | refine Kn.go (by assumption) ?_
    | (intro n hn; (try simp only [upd_none2, join_none_iff, ite_none, ne_eq] at hn); (try simp only [push_cast, seval, *]))
    | (intro hc)
    | fail)
    exact ⟨trivial, by (first | trivial | (simp only [push_cast, seval, *]; done)), by first | trivial | exact Heap.le_refl _⟩
  · rintro -
    repeat' (first
    | refine AW_seq_kn fun K hK => ?_
    | refine AW_block ?_
    | ((first
      | refine AW_region_draw (id := 6) E0 (fun f => [].contains f) dLLR0 dALR0 mixed (by kernel_rfl) ?_
      | refine AW_region E0 ?_ | refine AW_ret ?_ | refine AW_exit ?_ | refine AW_skip ?_ | unfold retQ); try simp only [push_cast, seval, *])
    | (apply AW_cond; (case hc => (simp only [push_cast, seval]; rfl)); all_goals (intro hc; first | (exfalso; simp only [push_cast, seval, *] at hc; done) | (exact absurd hc (by decide)) | ((try first | rw [Bool.not_true] at hc | rw [Bool.not_false] at hc); first | (with_reducible replace hc := tTT hc); clear hc | (with_reducible replace hc := tFF hc); clear hc | (have hp := hc; try simp only [decide_eq_true_eq, decide_eq_false_iff_not, bA, bB, bC, bD, bE, bF, bG, bH] at hp))))
    | (refine Kn.go hK ?_; clear hK K)
    | refine Kn.go (by assumption) ?_
    | (intro n hn; (try simp only [upd_none2, join_none_iff, ite_none, ne_eq] at hn); (try simp only [push_cast, seval, *]))
    | (intro hc)
    | fail)
    exact ⟨_, _, Weak.refl _ _, rfl, rfl⟩
theorem decR_le (b : List Int) (ho : octs b) : (decR b).1.length ≤ 200 := by
  by_cases h : (decR b).2 = 0
  · rw [decR_S] at h ⊢
    cases b with
    | nil => simp
    | cons n l =>
      have hn := ho n (by simp)
      simp only at h ⊢
      split at h
      · simp at h
      · rename_i h200
        rw [if_neg h200]
        have key : ∀ (m : Nat) (l : List Int) (out : List El), (decS m l out).1.length ≤ out.length + m := by
          intro m
          induction m with
          | zero => intro l out; unfold decS; split <;> simp
          | succ m ih =>
            intro l out
            unfold decS
            split
            · have := ih (elR l).2.2 (out ++ [(elR l).2.1])
              simp only [List.length_append, List.length_cons, List.length_nil] at this
              omega
            · simp
        have := key n.toNat l []
        simp only [List.length_nil] at this
        omega
  · have key : ∀ (m : Nat) (l : List Int) (out : List El), (decS m l out).2 ≠ 0 → (decS m l out).1 = [] := by
      intro m
      induction m with
      | zero => intro l out h; unfold decS at h ⊢; split at h <;> simp_all
      | succ m ih =>
        intro l out h
        unfold decS at h ⊢
        split at h
        · rename_i e; rw [if_pos e]; exact ih _ _ h
        · rename_i e; rw [if_neg e]
    rw [decR_S] at h ⊢
    cases b with
    | nil => simp
    | cons n l =>
      simp only at h ⊢
      split at h
      · rename_i e; rw [if_pos e]; simp
      · rename_i e; rw [if_neg e, key _ _ _ h]; simp
theorem recordReads_a (raw : List Int) (hrl : raw.length ≤ maxLen) (ho : octs raw) (H : Heap) :
    ACall Try.prog 3 [.l 1 (raw.map by1)] H fun r H' => r = .c (.bool true) := by
  have hw := wakes05_p
  unfold maxLen at hrl
  by_cases h2 : 5000 < raw.length
  · have h2' : (5000 : Int) < raw.length := by omega
    refine ACall_of' Try.func3 rfl (Ent_of Try.func3 (by kernel_rfl) rfl) (by simp [Try.ntmps3]) ?_; simp only [Try.ntmps3, Try.results3]
    repeat' (first
    | refine AW_seq_kn fun K hK => ?_
    | refine AW_block ?_
    | (refine does_call rfl rfl ?_; simp only [push_cast, seval, *]; refine ACall.monoP (wakes05_p _) ?_; (try simp only [push_cast, seval, *]))
    | ((first
      | refine AW_region E0 ?_ | refine AW_ret ?_ | refine AW_exit ?_ | refine AW_skip ?_ | unfold retQ); try simp only [push_cast, seval, *])
    | ((first | (apply AW_cond; (case hc => (simp only [push_cast, seval]; rfl))) | (apply ER_guard; (case hb => (simp only [push_cast, seval]; rfl)))); all_goals ((intro hc; first | (exfalso; simp only [push_cast, seval, *] at hc; done) | (exact absurd hc (by decide)) | ((try first | rw [Bool.not_true] at hc | rw [Bool.not_false] at hc); first | (with_reducible replace hc := tTT hc); clear hc | (with_reducible replace hc := tFF hc); clear hc | (have hp := hc; try simp only [decide_eq_true_eq, decide_eq_false_iff_not, bA, bB, bC, bD, bE, bF, bG, bH] at hp))) <;> try simp only [push_cast, seval, *]))
    | (refine Kn.go hK ?_; clear hK K)
    | refine Kn.go (by assumption) ?_
    | (intro n hn; (try simp only [upd_none2, join_none_iff, ite_none, ne_eq] at hn); (try simp only [push_cast, seval, *]))
    | (intro hc)
    | (apply ER_blk; (case hp => rfl); (case hb => (simp only [push_cast, seval]; rfl)); (case hd => (simp only [push_cast, seval]; done)); (case h => (intro hc; simp only [push_cast, seval, *]; rfl)); simp only [push_cast, seval, *])
    | fail)
    exact ⟨_, _, Weak.refl _ _, rfl⟩
  have h2' : ¬ (5000 : Int) < raw.length := by omega
  have d1 := fun x G hL => Decode_l raw ho (by omega) (x := x) (G := G) hL
  have d2 := refDecode_p raw ho (by omega)
  have hs := sameEl_p (decR raw).1 (by have := decR_le raw ho; unfold maxLen; omega)
  generalize decR raw = D at *
  obtain ⟨X, ex⟩ := D
  simp only at *
  replace d1 := Lib.hid d1
  clear ho
  refine ACall_of' Try.func3 rfl (Ent_of Try.func3 (by kernel_rfl) rfl) (by simp [Try.ntmps3]) ?_; simp only [Try.ntmps3, Try.results3]
  repeat' (first
    | refine AW_seq_kn fun K hK => ?_
    | refine AW_block ?_
    | (refine does_call rfl rfl ?_; simp only [push_cast, seval, *]; refine ACall.monoP (wakes05_p _) ?_; (try simp only [push_cast, seval, *]))
    | ((first
      | refine AW_region E0 ?_ | refine AW_ret ?_ | refine AW_exit ?_ | refine AW_skip ?_ | unfold retQ); try simp only [push_cast, seval, *])
    | ((first | (apply AW_cond; (case hc => (simp only [push_cast, seval]; rfl))) | (apply ER_guard; (case hb => (simp only [push_cast, seval]; rfl)))); all_goals ((intro hc; first | (exfalso; simp only [push_cast, seval, *] at hc; done) | (exact absurd hc (by decide)) | ((try first | rw [Bool.not_true] at hc | rw [Bool.not_false] at hc); first | (with_reducible replace hc := tTT hc); clear hc | (with_reducible replace hc := tFF hc); clear hc | (have hp := hc; try simp only [decide_eq_true_eq, decide_eq_false_iff_not, bA, bB, bC, bD, bE, bF, bG, bH] at hp))) <;> try simp only [push_cast, seval, *]))
    | (refine Kn.go hK ?_; clear hK K)
    | refine Kn.go (by assumption) ?_
    | (intro n hn; (try simp only [upd_none2, join_none_iff, ite_none, ne_eq] at hn); (try simp only [push_cast, seval, *]))
    | (intro hc)
    | (apply ER_blk; (case hp => rfl); (case hb => (simp only [push_cast, seval]; rfl)); (case hd => (simp only [push_cast, seval]; done)); (case h => (intro hc; simp only [push_cast, seval, *]; rfl)); simp only [push_cast, seval, *])
    | fail)
  refine does_appendL (rows := []) (news := raw.map by1) (OwnL.fresh hn) rfl rfl tE22 tS5 tB5 tZ5 rfl (by decide) ?_ ?_ ?_
  · simp only [List.length_map, List.length_nil, maxLen]; omega
  · simp only [List.length_map, List.length_nil]; omega
  intro x1 B1 hown
  rw [List.nil_append] at hown
  have hcs := hown.cs
  have hd := unhid d1 x1 B1 hown.lent
  clear d1 hown
  (try simp only [push_cast, seval, *])
  repeat' (first
    | refine AW_seq_kn fun K hK => ?_
    | refine AW_block ?_
    | (refine does_call rfl rfl ?_; simp only [push_cast, seval, *]; refine ACall.mono hd ?_; (rintro _ _ ⟨rfl, e2⟩; have e3 := e2.symm; clear e2; subst e3); (try simp only [push_cast, seval, *]))
    | (refine does_call rfl rfl ?_; simp only [push_cast, seval, *]; refine ACall.monoP (d2 _) ?_; (try simp only [push_cast, seval, *]))
    | (refine does_call rfl rfl ?_; simp only [push_cast, seval, *]; refine ACall.monoP (hs _) ?_; (try simp only [push_cast, seval, *]))
    | (refine does_call rfl rfl ?_; simp only [push_cast, seval, *]; refine ACall.monoP (wakes05_p _) ?_; (try simp only [push_cast, seval, *]))
    | ((first
      | refine AW_region E0 ?_ | refine AW_ret ?_ | refine AW_exit ?_ | refine AW_skip ?_ | unfold retQ); try simp only [push_cast, seval, *])
    | ((first | (apply AW_cond; (case hc => (simp only [push_cast, seval]; rfl))) | (apply ER_guard; (case hb => (simp only [push_cast, seval]; rfl)))); all_goals ((intro hc; first | (exfalso; simp only [push_cast, seval, *] at hc; done) | (exact absurd hc (by decide)) | ((try first | rw [Bool.not_true] at hc | rw [Bool.not_false] at hc); first | (with_reducible replace hc := tTT hc); clear hc | (with_reducible replace hc := tFF hc); clear hc | (have hp := hc; try simp only [decide_eq_true_eq, decide_eq_false_iff_not, bA, bB, bC, bD, bE, bF, bG, bH] at hp))) <;> try simp only [push_cast, seval, *]))
    | (refine Kn.go hK ?_; clear hK K)
    | refine Kn.go (by assumption) ?_
    | (intro n hn; (try simp only [upd_none2, join_none_iff, ite_none, ne_eq] at hn); (try simp only [push_cast, seval, *]))
    | (intro hc)
    | (apply ER_blk; (case hp => rfl); (case hb => (simp only [push_cast, seval]; rfl)); (case hd => (simp only [push_cast, seval]; done)); (case h => (intro hc; simp only [push_cast, seval, *]; rfl)); simp only [push_cast, seval, *])
    | fail)
  exact ⟨_, _, Weak.refl _ _, rfl⟩
end Go.Proofs.Ytfdedgeljijfdaa
