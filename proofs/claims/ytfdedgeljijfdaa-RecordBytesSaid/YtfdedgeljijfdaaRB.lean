/- Walks: the document's numbers. -/
import Derived.Test.YtfdedgeljijfdaaUD
namespace Go.Proofs.Ytfdedgeljijfdaa
open Go.RowKit
open Nat renaming reduceEqDiff → nA, reduceLT → nB, reduceLeDiff → nC, reduceAdd → nD, reduceMul → nE, reduceSub → nF, reduceBEq → nG
open Int renaming reduceToNat → iA, reduceLT → iB, reduceLE → iC, reduceEq → iD
open Bool renaming and_eq_true → bA, or_eq_true → bB, or_eq_false_iff → bC, and_eq_false_iff → bD, not_eq_true' → bE, not_eq_false' → bF, not_true → bG, not_false → bH
set_option linter.all false
set_option maxHeartbeats 4000000
attribute [local irreducible] AW Does ACall tE tS tB tZ

theorem u64_bd (x : Int) : 0 ≤ IntKind.u64.wrap x ∧ IntKind.u64.wrap x ≤ 18446744073709551615 := by
  rw [IntKind.wrap_u64]; omega
theorem binV_shl8 (x : Int) (k' : IntKind) (t : TypeId) : binV Try.prog .shl t (.c (.int .u64 x)) (.c (.int k' 8)) = some (.c (.int .u64 (IntKind.u64.wrap (x * 2 ^ 8)))) := by
  unfold binV
  simp only [show (0 : Int) ≤ 8 by decide, if_true, show min (8 : Int).toNat IntKind.u64.bits = 8 from rfl, ite_self]
theorem binV_shr8 (x : Int) (k' : IntKind) (t : TypeId) : binV Try.prog .shr t (.c (.int .u64 x)) (.c (.int k' 8)) = some (.c (.int .u64 (x.fdiv (2 ^ 8)))) := by
  unfold binV
  simp only [show (0 : Int) ≤ 8 by decide, if_true, show min (8 : Int).toNat IntKind.u64.bits = 8 from rfl, ite_self]
theorem number_p (l : List Int) (ho : octs l) (hl : l.length ≤ 8) : Pure Try.prog 34 [.l 1 (l.map by1)] (.c (.int .u64 (numB l))) := by
  intro H
  have hs8 := fun x k' t => binV_shl8 x k' t
  refine ACall_of' Try.func34 rfl (Ent_of Try.func34 (by kernel_rfl) rfl) (by simp [Try.ntmps34]) ?_; simp only [Try.ntmps34, Try.results34]
  repeat' (first
    | refine AW_seq_kn fun K hK => ?_
    | refine AW_block ?_
    | ((first
      | refine AW_region E0 ?_ | refine AW_ret ?_ | refine AW_exit ?_ | refine AW_skip ?_ | unfold retQ); try simp only [push_cast, seval, *])
    | (apply AW_cond; (case hc => (simp only [push_cast, seval]; rfl)); all_goals (intro hc; first | (exfalso; simp only [push_cast, seval, *] at hc; done) | (exact absurd hc (by decide)) | ((try first | rw [Bool.not_true] at hc | rw [Bool.not_false] at hc); first | (with_reducible replace hc := tTT hc); clear hc | (with_reducible replace hc := tFF hc); clear hc | (have hp := hc; try simp only [decide_eq_true_eq, decide_eq_false_iff_not, bA, bB, bC, bD, bE, bF, bG, bH] at hp))))
    | (refine Kn.go hK ?_; clear hK K)
    | refine Kn.go (by assumption) ?_
    | (intro n hn; (try simp only [upd_none2, join_none_iff, ite_none, ne_eq] at hn); (try simp only [push_cast, seval, *]))
    | (intro hc)
    | fail)
  refine AW_loopN l.length (fun _ => True) (fun k => [(0, .l 1 (l.map by1)), (3, .c (.int .u64 (numB (l.take k)))), (4, ci k)]) (fun _ => H) trivial ?_ ?_ ?_ ?_
  · (first | trivial | (simp only [push_cast, seval, *]; done))
  · exact Heap.le_refl _
  · rintro k hk -
    have hc := List.getElem?_eq_getElem (l := l) hk; generalize l[k] = c at hc; have hcm := List.mem_of_getElem? hc; have hkl : (k : Int) < l.length := (by omega); have hkw : IntKind.i64.wrap ((k : Int) + 1) = (k : Int) + 1 := wrap_i64 (by omega) (by omega)
    have hoc := ho c hcm
    have hns := num_step hc ho hl
    have hcv : IntKind.u64.wrap c = c := wrap_u64 (by omega) (by omega)
    have hby : by1 c = [.c (.int .u8 c)] := rfl
    generalize numB (l.take k) = X at *
    generalize numB (l.take (k + 1)) = Z at *
    have hs := fun k' t => hs8 X k' t
    generalize IntKind.u64.wrap (X * 2 ^ 8) = Y at *
    clear hs8 hoc
    repeat' (first
    | refine AW_seq_kn fun K hK => ?_
    | refine AW_block ?_
    | ((first
      | refine AW_region E0 ?_ | refine AW_ret ?_ | refine AW_exit ?_ | refine AW_skip ?_ | unfold retQ); try simp only [push_cast, seval, *])
    | (apply AW_cond; (case hc => (simp only [push_cast, seval]; rfl)); all_goals (intro hc; first | (exfalso; simp only [push_cast, seval, *] at hc; done) | (exact absurd hc (by decide)) | ((try first | rw [Bool.not_true] at hc | rw [Bool.not_false] at hc); first | (with_reducible replace hc := tTT hc); clear hc | (with_reducible replace hc := tFF hc); clear hc | (have hp := hc; try simp only [decide_eq_true_eq, decide_eq_false_iff_not, bA, bB, bC, bD, bE, bF, bG, bH] at hp))))
    | (refine Kn.go hK ?_; clear hK K)
    | refine Kn.go (by assumption) ?_
    | (intro n hn; (try simp only [upd_none2, join_none_iff, ite_none, ne_eq] at hn); (try simp only [push_cast, seval, *]))
    | (intro hc)
    | fail)
    exact ⟨trivial, by (first | trivial | (simp only [push_cast, seval, *]; done)), by first | trivial | exact Heap.le_refl _⟩
  · rintro -
    rw [List.take_length]
    clear hs8
    repeat' (first
    | refine AW_seq_kn fun K hK => ?_
    | refine AW_block ?_
    | ((first
      | refine AW_region E0 ?_ | refine AW_ret ?_ | refine AW_exit ?_ | refine AW_skip ?_ | unfold retQ); try simp only [push_cast, seval, *])
    | (apply AW_cond; (case hc => (simp only [push_cast, seval]; rfl)); all_goals (intro hc; first | (exfalso; simp only [push_cast, seval, *] at hc; done) | (exact absurd hc (by decide)) | ((try first | rw [Bool.not_true] at hc | rw [Bool.not_false] at hc); first | (with_reducible replace hc := tTT hc); clear hc | (with_reducible replace hc := tFF hc); clear hc | (have hp := hc; try simp only [decide_eq_true_eq, decide_eq_false_iff_not, bA, bB, bC, bD, bE, bF, bG, bH] at hp))))
    | (refine Kn.go hK ?_; clear hK K)
    | refine Kn.go (by assumption) ?_
    | (intro n hn; (try simp only [upd_none2, join_none_iff, ite_none, ne_eq] at hn); (try simp only [push_cast, seval, *]))
    | (intro hc)
    | fail)
    exact ⟨_, _, Weak.less (by (simp only [push_cast, seval, *])), rfl, rfl⟩
theorem high_o : ∀ (nb : Nat) (x : Int), nb ≤ 8 → 0 ≤ x → x ≤ 18446744073709551615 → ∀ H : Heap, ACall Try.prog 43 [.c (.int .u64 x), ci nb] H fun r H' => OwnL H' r 5 1 ((beB nb x).map by1) H
  | 0, x, _, _, _ => fun H => by
    simp only [beB, List.map_nil]
    refine ACall_of' Try.func43 rfl (Ent_of Try.func43 (by kernel_rfl) rfl) (by simp [Try.ntmps43]) ?_; simp only [Try.ntmps43, Try.results43]
    repeat' (first
    | refine AW_seq_kn fun K hK => ?_
    | refine AW_block ?_
    | ((first
      | refine AW_region E0 ?_ | refine AW_ret ?_ | refine AW_exit ?_ | refine AW_skip ?_ | unfold retQ); try simp only [push_cast, seval, *])
    | (apply AW_cond; (case hc => (simp only [push_cast, seval]; rfl)); all_goals (intro hc; first | (exfalso; simp only [push_cast, seval, *] at hc; done) | (exact absurd hc (by decide)) | ((try first | rw [Bool.not_true] at hc | rw [Bool.not_false] at hc); first | (with_reducible replace hc := tTT hc); clear hc | (with_reducible replace hc := tFF hc); clear hc | (have hp := hc; try simp only [decide_eq_true_eq, decide_eq_false_iff_not, bA, bB, bC, bD, bE, bF, bG, bH] at hp))))
    | (refine Kn.go hK ?_; clear hK K)
    | refine Kn.go (by assumption) ?_
    | (intro n hn; (try simp only [upd_none2, join_none_iff, ite_none, ne_eq] at hn); (try simp only [push_cast, seval, *]))
    | (intro hc)
    | fail)
    exact ⟨_, H, Weak.refl _ _, .inl ⟨⟨_, rfl⟩, rfl, rfl⟩⟩
  | nb + 1, x, hn8, h0, h1 => fun H => by
    have ih := high_o nb (x / 256) (by omega) (by omega) (by omega)
    have hlen := beB_len nb (x / 256)
    have hd : x.fdiv (2 ^ 8) = x / 256 := Int.fdiv_eq_ediv_of_nonneg _ (by omega)
    have hs := fun k' t => binV_shr8 x k' t
    rw [hd] at hs
    have hn0 : ¬ ((nb + 1 : Nat) : Int) = 0 := by omega
    have hw : IntKind.i64.wrap (((nb + 1 : Nat) : Int) - 1) = (nb : Int) := by rw [wrap_i64 (by omega) (by omega)]; omega
    have han := and255 x h0 h1
    have hcv : IntKind.u8.wrap (x % 256) = x % 256 := wrap_u8 (by omega) (by omega)
    simp only [beB]
    generalize beB nb (x / 256) = B at *
    generalize x / 256 = y at *
    generalize x % 256 = z at *
    have hby : by1 z = [.c (.int .u8 z)] := rfl
    have hBl : B.length ≤ 8 := by omega
    generalize ((nb + 1 : Nat) : Int) = N1 at *
    replace ih := Lib.hid ih
    clear hd h0 h1
    refine ACall_of' Try.func43 rfl (Ent_of Try.func43 (by kernel_rfl) rfl) (by simp [Try.ntmps43]) ?_; simp only [Try.ntmps43, Try.results43]
    repeat' (first
    | refine AW_seq_kn fun K hK => ?_
    | refine AW_block ?_
    | ((first
      | refine AW_region E0 ?_ | refine AW_ret ?_ | refine AW_exit ?_ | refine AW_skip ?_ | unfold retQ); try simp only [push_cast, seval, *])
    | (apply AW_cond; (case hc => (simp only [push_cast, seval]; rfl)); all_goals (intro hc; first | (exfalso; simp only [push_cast, seval, *] at hc; done) | (exact absurd hc (by decide)) | ((try first | rw [Bool.not_true] at hc | rw [Bool.not_false] at hc); first | (with_reducible replace hc := tTT hc); clear hc | (with_reducible replace hc := tFF hc); clear hc | (have hp := hc; try simp only [decide_eq_true_eq, decide_eq_false_iff_not, bA, bB, bC, bD, bE, bF, bG, bH] at hp))))
    | (refine Kn.go hK ?_; clear hK K)
    | refine Kn.go (by assumption) ?_
    | (intro n hn; (try simp only [upd_none2, join_none_iff, ite_none, ne_eq] at hn); (try simp only [push_cast, seval, *]))
    | (intro hc)
    | fail)
    refine does_call rfl rfl ?_
    simp only [push_cast, seval, *]
    refine ACall.mono (unhid ih _) ?_
    intro v B2 hown
    have hcs := hown.cs
    replace hown := Lib.hid hown
    (try simp only [push_cast, seval, *])
    repeat' (first
    | refine AW_seq_kn fun K hK => ?_
    | refine AW_block ?_
    | ((first
      | refine AW_region E0 ?_ | refine AW_ret ?_ | refine AW_exit ?_ | refine AW_skip ?_ | unfold retQ); try simp only [push_cast, seval, *])
    | (apply AW_cond; (case hc => (simp only [push_cast, seval]; rfl)); all_goals (intro hc; first | (exfalso; simp only [push_cast, seval, *] at hc; done) | (exact absurd hc (by decide)) | ((try first | rw [Bool.not_true] at hc | rw [Bool.not_false] at hc); first | (with_reducible replace hc := tTT hc); clear hc | (with_reducible replace hc := tFF hc); clear hc | (have hp := hc; try simp only [decide_eq_true_eq, decide_eq_false_iff_not, bA, bB, bC, bD, bE, bF, bG, bH] at hp))))
    | (refine Kn.go hK ?_; clear hK K)
    | refine Kn.go (by assumption) ?_
    | (intro n hn; (try simp only [upd_none2, join_none_iff, ite_none, ne_eq] at hn); (try simp only [push_cast, seval, *]))
    | (intro hc)
    | fail)
    refine does_appN rfl rfl rfl rfl rfl (unhid hown) hn tE22 tS5 tB5 tZ5 rfl (by decide) ?_ ?_ ?_
    · simp only [List.length_map, maxLen]; omega
    · simp only [List.length_map]; omega
    intro x' H' hown'
    have hcs' := hown'.cs
    rw [← hby, ← List.map_singleton (f := by1), ← List.map_append] at hown'
    replace hown' := Lib.hid hown'
    (try simp only [push_cast, seval, *])
    repeat' (first
    | refine AW_seq_kn fun K hK => ?_
    | refine AW_block ?_
    | ((first
      | refine AW_region E0 ?_ | refine AW_ret ?_ | refine AW_exit ?_ | refine AW_skip ?_ | unfold retQ); try simp only [push_cast, seval, *])
    | (apply AW_cond; (case hc => (simp only [push_cast, seval]; rfl)); all_goals (intro hc; first | (exfalso; simp only [push_cast, seval, *] at hc; done) | (exact absurd hc (by decide)) | ((try first | rw [Bool.not_true] at hc | rw [Bool.not_false] at hc); first | (with_reducible replace hc := tTT hc); clear hc | (with_reducible replace hc := tFF hc); clear hc | (have hp := hc; try simp only [decide_eq_true_eq, decide_eq_false_iff_not, bA, bB, bC, bD, bE, bF, bG, bH] at hp))))
    | (refine Kn.go hK ?_; clear hK K)
    | refine Kn.go (by assumption) ?_
    | (intro n hn; (try simp only [upd_none2, join_none_iff, ite_none, ne_eq] at hn); (try simp only [push_cast, seval, *]))
    | (intro hc)
    | fail)
    exact ⟨_, _, Weak.refl _ _, unhid hown'⟩
theorem High_l (nb : Nat) (x : Int) (hn : nb ≤ 8) (h0 : 0 ≤ x) (h1 : x ≤ 18446744073709551615) : Pure Try.prog 43 [.c (.int .u64 x), ci nb] (.l 1 ((beB nb x).map by1)) := fun H =>
  ACall.weak ((high_o nb x hn h0 h1 H).mono fun r H' h => ⟨_, _, h.weak (fun F F' hF hi _ => hi), rfl, rfl⟩)
end Go.Proofs.Ytfdedgeljijfdaa
