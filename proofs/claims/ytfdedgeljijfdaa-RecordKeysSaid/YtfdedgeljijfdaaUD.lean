/- Walks: numbers laid behind bytes. -/
import Derived.Test.YtfdedgeljijfdaaA
import Derived.Test.YtfdedgeljijfdaaMD
namespace Go.Proofs.Ytfdedgeljijfdaa
open Go.RowKit
open Nat renaming reduceEqDiff → nA, reduceLT → nB, reduceLeDiff → nC, reduceAdd → nD, reduceMul → nE, reduceSub → nF, reduceBEq → nG
open Int renaming reduceToNat → iA, reduceLT → iB, reduceLE → iC, reduceEq → iD
open Bool renaming and_eq_true → bA, or_eq_true → bB, or_eq_false_iff → bC, and_eq_false_iff → bD, not_eq_true' → bE, not_eq_false' → bF, not_true → bG, not_false → bH
set_option linter.all false
set_option maxHeartbeats 4000000
attribute [local irreducible] AW Does ACall tE tS tB tZ

section
variable {P : Program} {o : Oper} {a : Nat → AV} {H : Heap} {K : AV → Heap → Prop}
/-- elements are appended, out of a slice that was just made -/
theorem does_appN {x y : Operand} {t ty : TypeId} {sz by' : Nat} {zs : List Value} {rows rowsm : List (List AV)} {H0 B : Heap} {m len cap cap0 : Nat} {tm : TypeId} {x0 : AV} (ho : o.op = .call { callee := .builtin .append, args := #[x, y], argTypes := #[t, t] })
    (hx : ev a x = x0) (hy : ev a y = .s m sz 0 len cap) (hH : H = upd B m (.r tm sz cap0 rowsm)) (hl : len = rowsm.length) (hown : OwnL B x0 ty sz rows H0) (hm : B m = none) (hE : tE P t = some ty) (hS : tS P ty = some sz) (hB : tB P ty = some by') (hz : tZ P ty = some zs) (hzl : zs.length = sz) (hp : 0 < sz)
    (h63 : rows.length + len ≤ maxLen) (hbytes : (rows.length + len) * by' ≤ 140737488355328) (h : ∀ x' H', OwnL H' x' ty sz (rows ++ rowsm) H0 → K x' H') : Does P o a H K := by
  subst hH hx hl
  have h0 := hown.none hm
  refine does_append_s ho hE hS hB hz hzl hp (hown.new hm _) hy (upd_same _ _ _) (by simp) h63 hbytes fun x' H' h' => ?_
  rw [del_upd_same h0] at h'
  simp at h'
  exact h x' H' h'
end
theorem bclone_o (l : List Int) (hl : l.length ≤ 1000000) (H : Heap) : ACall Try.prog 44 [.l 1 (l.map by1)] H fun r H' => OwnL H' r 5 1 (l.map by1) H := by
  have hE24 := tE22
  refine ACall_of' Try.func44 rfl (Ent_of Try.func44 (by kernel_rfl) rfl) (by simp [Try.ntmps44]) ?_; simp only [Try.ntmps44, Try.results44]
  repeat' (first
    | refine AW_seq_kn fun K hK => ?_
    | refine AW_block ?_
    | (refine does_isnil_l rfl rfl rfl hE24 ?_; intro b hb; (try simp only [push_cast, seval, *]))
    | ((first
      | refine AW_region E0 ?_ | refine AW_ret ?_ | refine AW_exit ?_ | refine AW_skip ?_ | unfold retQ); try simp only [push_cast, seval, *])
    | (apply AW_cond; (case hc => (simp only [push_cast, seval]; rfl)); all_goals (intro hc; first | (exfalso; simp only [push_cast, seval, *] at hc; done) | (exact absurd hc (by decide)) | ((try first | rw [Bool.not_true] at hc | rw [Bool.not_false] at hc); first | (with_reducible replace hc := tTT hc); clear hc | (with_reducible replace hc := tFF hc); clear hc | (have hp := hc; try simp only [decide_eq_true_eq, decide_eq_false_iff_not, bA, bB, bC, bD, bE, bF, bG, bH] at hp))))
    | (refine Kn.go hK ?_; clear hK K)
    | refine Kn.go (by assumption) ?_
    | (intro n hn; (try simp only [upd_none2, join_none_iff, ite_none, ne_eq] at hn); (try simp only [push_cast, seval, *]))
    | (intro hc)
    | fail)
  · refine ⟨_, _, Weak.refl _ _, .inl ⟨⟨_, rfl⟩, by first | rfl | exact hb hc, rfl⟩⟩
  · have hown : OwnL (upd H n (.r 5 1 0 [])) (.s n 1 0 0 0) 5 1 [] H := .inr ⟨n, 0, rfl, upd_same _ _ _, (del_upd_same hn).symm⟩
    refine does_appL rfl rfl rfl hown tE22 tS5 tB5 tZ5 rfl (by decide) ?_ ?_ ?_
    · simp only [List.length_map, List.length_nil, maxLen]; omega
    · simp only [List.length_map, List.length_nil]; omega
    intro x' H' hown'
    have hcs' := hown'.cs
    (try simp only [push_cast, seval, *])
    repeat' (first
    | refine AW_seq_kn fun K hK => ?_
    | refine AW_block ?_
    | ((first
      | refine AW_region E0 ?_ | refine AW_ret ?_ | refine AW_exit ?_ | refine AW_skip ?_ | unfold retQ); try simp only [push_cast, seval, *])
    | (apply AW_cond; (case hc => (simp only [push_cast, seval]; rfl)); all_goals (intro hc; first | (exfalso; simp only [push_cast, seval, *] at hc; done) | (exact absurd hc (by decide)) | ((try first | rw [Bool.not_true] at hc | rw [Bool.not_false] at hc); first | (with_reducible replace hc := tTT hc); clear hc | (with_reducible replace hc := tFF hc); clear hc | (have hp := hc; try simp only [decide_eq_true_eq, decide_eq_false_iff_not, bA, bB, bC, bD, bE, bF, bG, bH] at hp))))
    | (refine Kn.go hK ?_; clear hK K)
    | refine Kn.go (by assumption) ?_
    | (intro n hn; (try simp only [upd_none2, join_none_iff, ite_none, ne_eq] at hn); (try simp only [push_cast, seval, *]))
    | (intro hc)
    | fail)
    exact ⟨_, _, Weak.refl _ _, by simpa using hown'⟩
theorem bclone_p (l : List Int) (hl : l.length ≤ 1000000) : Pure Try.prog 44 [.l 1 (l.map by1)] (.l 1 (l.map by1)) := fun H =>
  ACall.weak ((bclone_o l hl H).mono fun r H' h => ⟨_, _, h.weak (fun F F' hF hi _ => hi), rfl, rfl⟩)

theorem lay_step (n k : Nat) (x : Int) (hn : n ≤ 8) (hk : k < n) (h0 : 0 ≤ x) : ∃ z y, (beB n x)[k]? = some z ∧ (∀ t, binV Try.prog .shr t (.c (.int .u64 x)) (.c (.int .i64 (8 * (n : Int) - 8 * ((k : Int) + 1)))) = some (.c (.int .u64 y))) ∧ IntKind.u8.wrap y = z := by
  refine ⟨_, x / 2 ^ (8 * n - 8 * (k + 1)), beB_get n x k h0 hk, fun t => ?_, IntKind.wrap_u8 _⟩
  have e : (8 * (n : Int) - 8 * ((k : Int) + 1)) = ((8 * n - 8 * (k + 1) : Nat) : Int) := by omega
  rw [e]
  have hm : min ((8 * n - 8 * (k + 1) : Nat) : Int).toNat IntKind.u64.bits = 8 * n - 8 * (k + 1) := by
    rw [Int.toNat_natCast]; show min _ 64 = _; omega
  unfold binV
  simp only [if_true, hm, Int.natCast_nonneg]
  rw [Int.fdiv_eq_ediv_of_nonneg _ (Int.le_of_lt (Int.pow_pos (by omega))), ite_self]
theorem lay_o (n : Nat) (hn : n ≤ 8) (b : List Int) (hl : b.length ≤ 1000000) (x : Int) (h0 : 0 ≤ x) (h1 : x ≤ 18446744073709551615) (H : Heap) :
    ACall Try.prog 50 [.l 1 (b.map by1), .c (.int .u64 x), .c (.int .i64 (8 * (n : Int)))] H fun r H' => OwnL H' r 5 1 ((b ++ beB n x).map by1) H := by
  have hqd : (8 * (n : Int)).tdiv 8 = (n : Int) := Int.mul_tdiv_cancel_left _ (by omega)
  have hqw : IntKind.i64.wrap (n : Int) = (n : Int) := wrap_i64 (by omega) (by omega)
  have hcl := bclone_o b hl
  have hst := fun k hk => lay_step n k x hn hk h0
  have hlen := beB_len n x
  generalize beB n x = L at *
  replace hst := Lib.hid hst
  replace hcl := Lib.hid hcl
  clear h0 h1
  refine ACall_of' Try.func50 rfl (Ent_of Try.func50 (by kernel_rfl) rfl) (by simp [Try.ntmps50]) ?_; simp only [Try.ntmps50, Try.results50]
  repeat' (first
    | refine AW_seq_kn fun K hK => ?_
    | refine AW_block ?_
    | ((first
      | refine AW_region E0 ?_ | refine AW_ret ?_ | refine AW_exit ?_ | refine AW_skip ?_ | unfold retQ); try simp only [push_cast, seval, *])
    | (apply AW_cond; (case hc => (simp only [push_cast, seval]; rfl)); all_goals (intro hc; first | (exfalso; simp only [push_cast, seval, *] at hc; done) | (exact absurd hc (by decide)) | ((try first | rw [Bool.not_true] at hc | rw [Bool.not_false] at hc); first | (with_reducible replace hc := tTT hc); clear hc | (with_reducible replace hc := tFF hc); clear hc | (have hp := hc; try simp only [decide_eq_true_eq, decide_eq_false_iff_not, bA, bB, bC, bD, bE, bF, bG, bH] at hp))))
    | (refine Kn.go hK ?_; clear hK K)
    | refine Kn.go (by assumption) ?_
    | (intro n hn; (try simp only [upd_none2, join_none_iff, ite_none, ne_eq] at hn); (try simp only [push_cast, seval, *]))
    | (intro hc)
    | fail)
  refine does_call rfl rfl ?_
  simp only [push_cast, seval, *]
  refine ACall.mono (unhid hcl _) ?_
  intro v B hown
  have hcs := hown.cs
  (try simp only [push_cast, seval, *])
  repeat' (first
    | refine AW_seq_kn fun K hK => ?_
    | refine AW_block ?_
    | ((first
      | refine AW_region E0 ?_ | refine AW_ret ?_ | refine AW_exit ?_ | refine AW_skip ?_ | unfold retQ); try simp only [push_cast, seval, *])
    | (apply AW_cond; (case hc => (simp only [push_cast, seval]; rfl)); all_goals (intro hc; first | (exfalso; simp only [push_cast, seval, *] at hc; done) | (exact absurd hc (by decide)) | ((try first | rw [Bool.not_true] at hc | rw [Bool.not_false] at hc); first | (with_reducible replace hc := tTT hc); clear hc | (with_reducible replace hc := tFF hc); clear hc | (have hp := hc; try simp only [decide_eq_true_eq, decide_eq_false_iff_not, bA, bB, bC, bD, bE, bF, bG, bH] at hp))))
    | (refine Kn.go hK ?_; clear hK K)
    | refine Kn.go (by assumption) ?_
    | (intro n hn; (try simp only [upd_none2, join_none_iff, ite_none, ne_eq] at hn); (try simp only [push_cast, seval, *]))
    | (intro hc)
    | fail)
  refine AW_loopX (σ := AV × Heap) n (fun k w => OwnL w.2 w.1 5 1 ((b ++ L.take k).map by1) H) (fun k w => [(1, .c (.int .u64 x)), (2, .c (.int .i64 (8 * (n : Int)))), (7, w.1), (12, ci n), (13, ci k)]) (fun _ w => w.2) (v, B) (by simpa using hown) ?_ ?_ ?_ ?_
  · (first | trivial | (simp only [push_cast, seval, *]; done))
  · exact Heap.le_refl _
  · rintro k ⟨v, B⟩ hk hown
    have hkl : (k : Int) < n := (by omega); have hkw : IntKind.i64.wrap ((k : Int) + 1) = (k : Int) + 1 := wrap_i64 (by omega) (by omega)
    obtain ⟨z, y, hz, hsh, hy⟩ := unhid hst k hk
    have hw1 : IntKind.i64.wrap (8 * ((k : Int) + 1)) = 8 * ((k : Int) + 1) := wrap_i64 (by omega) (by omega)
    have hw2 : IntKind.i64.wrap (8 * (n : Int) - 8 * ((k : Int) + 1)) = 8 * (n : Int) - 8 * ((k : Int) + 1) := wrap_i64 (by omega) (by omega)
    have hcs := hown.cs
    have hby : by1 z = [.c (.int .u8 z)] := rfl
    simp only at hown hcs
    replace hown := Lib.hid hown
    replace hz := Lib.hid hz
    repeat' (first
    | refine AW_seq_kn fun K hK => ?_
    | refine AW_block ?_
    | ((first
      | refine AW_region E0 ?_ | refine AW_ret ?_ | refine AW_exit ?_ | refine AW_skip ?_ | unfold retQ); try simp only [push_cast, seval, *])
    | (apply AW_cond; (case hc => (simp only [push_cast, seval]; rfl)); all_goals (intro hc; first | (exfalso; simp only [push_cast, seval, *] at hc; done) | (exact absurd hc (by decide)) | ((try first | rw [Bool.not_true] at hc | rw [Bool.not_false] at hc); first | (with_reducible replace hc := tTT hc); clear hc | (with_reducible replace hc := tFF hc); clear hc | (have hp := hc; try simp only [decide_eq_true_eq, decide_eq_false_iff_not, bA, bB, bC, bD, bE, bF, bG, bH] at hp))))
    | (refine Kn.go hK ?_; clear hK K)
    | refine Kn.go (by assumption) ?_
    | (intro n hn; (try simp only [upd_none2, join_none_iff, ite_none, ne_eq] at hn); (try simp only [push_cast, seval, *]))
    | (intro hc)
    | fail)
    refine does_appN rfl rfl rfl rfl rfl (unhid hown) hn tE22 tS5 tB5 tZ5 rfl (by decide) ?_ ?_ ?_
    · simp only [List.length_map, List.length_append, List.length_take, maxLen]; omega
    · simp only [List.length_map, List.length_append, List.length_take]; omega
    intro x' H' hown'
    have hcs' := hown'.cs
    replace hown' := Lib.hid hown'
    (try simp only [push_cast, seval, *])
    repeat' (first
    | refine AW_seq_kn fun K hK => ?_
    | refine AW_block ?_
    | ((first
      | refine AW_region E0 ?_ | refine AW_ret ?_ | refine AW_exit ?_ | refine AW_skip ?_ | unfold retQ); try simp only [push_cast, seval, *])
    | (apply AW_cond; (case hc => (simp only [push_cast, seval]; rfl)); all_goals (intro hc; first | (exfalso; simp only [push_cast, seval, *] at hc; done) | (exact absurd hc (by decide)) | ((try first | rw [Bool.not_true] at hc | rw [Bool.not_false] at hc); first | (with_reducible replace hc := tTT hc); clear hc | (with_reducible replace hc := tFF hc); clear hc | (have hp := hc; try simp only [decide_eq_true_eq, decide_eq_false_iff_not, bA, bB, bC, bD, bE, bF, bG, bH] at hp))))
    | (refine Kn.go hK ?_; clear hK K)
    | refine Kn.go (by assumption) ?_
    | (intro n hn; (try simp only [upd_none2, join_none_iff, ite_none, ne_eq] at hn); (try simp only [push_cast, seval, *]))
    | (intro hc)
    | fail)
    refine ⟨(x', H'), ?_, by (first | trivial | (simp only [push_cast, seval, *]; done)), Heap.le_refl _⟩
    have h := unhid hown'
    rw [take_snoc (unhid hz), ← List.append_assoc, List.map_append]
    exact h
  · rintro ⟨v, B⟩ hown
    rw [List.take_of_length_le (by omega)] at hown
    simp only at hown
    have hcs := hown.cs
    replace hown := Lib.hid hown
    repeat' (first
    | refine AW_seq_kn fun K hK => ?_
    | refine AW_block ?_
    | ((first
      | refine AW_region E0 ?_ | refine AW_ret ?_ | refine AW_exit ?_ | refine AW_skip ?_ | unfold retQ); try simp only [push_cast, seval, *])
    | (apply AW_cond; (case hc => (simp only [push_cast, seval]; rfl)); all_goals (intro hc; first | (exfalso; simp only [push_cast, seval, *] at hc; done) | (exact absurd hc (by decide)) | ((try first | rw [Bool.not_true] at hc | rw [Bool.not_false] at hc); first | (with_reducible replace hc := tTT hc); clear hc | (with_reducible replace hc := tFF hc); clear hc | (have hp := hc; try simp only [decide_eq_true_eq, decide_eq_false_iff_not, bA, bB, bC, bD, bE, bF, bG, bH] at hp))))
    | (refine Kn.go hK ?_; clear hK K)
    | refine Kn.go (by assumption) ?_
    | (intro n hn; (try simp only [upd_none2, join_none_iff, ite_none, ne_eq] at hn); (try simp only [push_cast, seval, *]))
    | (intro hc)
    | fail)
    exact ⟨_, _, Weak.refl _ _, unhid hown⟩
theorem lay_nil (n : Nat) (hn : n ≤ 8) (x : Int) (h0 : 0 ≤ x) (h1 : x ≤ 18446744073709551615) (H : Heap) :
    ACall Try.prog 50 [.c (.slice none 0 0), .c (.int .u64 x), .c (.int .i64 (8 * (n : Int)))] H fun r H' => OwnL H' r 5 1 ((beB n x).map by1) H :=
  ACall.argw (fun F => Imps.cons (Imp.nil_l 1) (fun _ => rfl) (Imps.cons (Imp.refl (Mem.le.refl F) _) id (Imps.cons (Imp.refl (Mem.le.refl F) _) id Imps.nil))) (by have h := lay_o n hn [] (by simp) x h0 h1 H; simpa using h)
theorem Put64_o (b : List Int) (hb : b.length ≤ 1000000) (x : Int) (h0 : 0 ≤ x) (h1 : x ≤ 18446744073709551615) (H : Heap) :
    ACall Try.prog 37 [.l 1 (b.map by1), .c (.int .u64 x)] H fun r H' => OwnL H' r 5 1 ((b ++ beB 8 x).map by1) H := by
  have hl := fun H => lay_o 8 (by omega) b hb x h0 (by omega) H
  simp only [show (8 * ((8 : Nat) : Int)) = 64 from rfl] at hl
  generalize beB 8 x = L at *
  replace hl := Lib.hid hl
  refine ACall_of' Try.func37 rfl (Ent_of Try.func37 (by kernel_rfl) rfl) (by simp [Try.ntmps37]) ?_; simp only [Try.ntmps37, Try.results37]
  repeat' (first
    | refine AW_seq_kn fun K hK => ?_
    | refine AW_block ?_
    | ((first
      | refine AW_region E0 ?_ | refine AW_ret ?_ | refine AW_exit ?_ | refine AW_skip ?_ | unfold retQ); try simp only [push_cast, seval, *])
    | (apply AW_cond; (case hc => (simp only [push_cast, seval]; rfl)); all_goals (intro hc; first | (exfalso; simp only [push_cast, seval, *] at hc; done) | (exact absurd hc (by decide)) | ((try first | rw [Bool.not_true] at hc | rw [Bool.not_false] at hc); first | (with_reducible replace hc := tTT hc); clear hc | (with_reducible replace hc := tFF hc); clear hc | (have hp := hc; try simp only [decide_eq_true_eq, decide_eq_false_iff_not, bA, bB, bC, bD, bE, bF, bG, bH] at hp))))
    | (refine Kn.go hK ?_; clear hK K)
    | refine Kn.go (by assumption) ?_
    | (intro n hn; (try simp only [upd_none2, join_none_iff, ite_none, ne_eq] at hn); (try simp only [push_cast, seval, *]))
    | (intro hc)
    | fail)
  refine does_call rfl rfl ?_
  simp only [push_cast, seval, *]
  refine ACall.mono (unhid hl _) ?_
  intro v B hown
  have hcs := hown.cs
  replace hown := Lib.hid hown
  (try simp only [push_cast, seval, *])
  repeat' (first
    | refine AW_seq_kn fun K hK => ?_
    | refine AW_block ?_
    | ((first
      | refine AW_region E0 ?_ | refine AW_ret ?_ | refine AW_exit ?_ | refine AW_skip ?_ | unfold retQ); try simp only [push_cast, seval, *])
    | (apply AW_cond; (case hc => (simp only [push_cast, seval]; rfl)); all_goals (intro hc; first | (exfalso; simp only [push_cast, seval, *] at hc; done) | (exact absurd hc (by decide)) | ((try first | rw [Bool.not_true] at hc | rw [Bool.not_false] at hc); first | (with_reducible replace hc := tTT hc); clear hc | (with_reducible replace hc := tFF hc); clear hc | (have hp := hc; try simp only [decide_eq_true_eq, decide_eq_false_iff_not, bA, bB, bC, bD, bE, bF, bG, bH] at hp))))
    | (refine Kn.go hK ?_; clear hK K)
    | refine Kn.go (by assumption) ?_
    | (intro n hn; (try simp only [upd_none2, join_none_iff, ite_none, ne_eq] at hn); (try simp only [push_cast, seval, *]))
    | (intro hc)
    | fail)
  exact ⟨_, _, Weak.refl _ _, unhid hown⟩
theorem flatR_by1 (l : List Int) : FlatR (l.map by1) := FlatR.map l (fun x y hy => by simp only [by1, List.mem_cons, List.not_mem_nil, or_false] at hy; subst hy; exact Flat.c _)
/-- the caller owns the bytes -/
theorem Put64_l (b : List Int) (hb : b.length ≤ 1000000) (x : Int) (h0 : 0 ≤ x) (h1 : x ≤ 18446744073709551615) (v : AV) (B B0 : Heap) (hown : OwnL B v 5 1 (b.map by1) B0) :
    ACall Try.prog 37 [v, .c (.int .u64 x)] B fun r H' => OwnL H' r 5 1 ((b ++ beB 8 x).map by1) B :=
  ACall.lendO (args' := [.l 1 (b.map by1), .c (.int .u64 x)]) (flatR_by1 _) (show Lent _ _ _ ∧ Lent _ _ _ ∧ True from ⟨hown.lent, Lent.refl _ _, trivial⟩) (Put64_o b hb x h0 h1 _)
end Go.Proofs.Ytfdedgeljijfdaa
