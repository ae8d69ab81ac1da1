/- Walks: Encode and Decode, frozen; the layer does something. -/
import Derived.Test.YtfdedgeljijfdaaRH
import Derived.Test.YtfdedgeljijfdaaEN
namespace Go.Proofs.Ytfdedgeljijfdaa
open Go.RowKit
open Nat renaming reduceEqDiff → nA, reduceLT → nB, reduceLeDiff → nC, reduceAdd → nD, reduceMul → nE, reduceSub → nF, reduceBEq → nG
open Int renaming reduceToNat → iA, reduceLT → iB, reduceLE → iC, reduceEq → iD
open Bool renaming and_eq_true → bA, or_eq_true → bB, or_eq_false_iff → bC, and_eq_false_iff → bD, not_eq_true' → bE, not_eq_false' → bF, not_true → bG, not_false → bH
set_option linter.all false
set_option maxHeartbeats 4000000
attribute [local irreducible] AW Does ACall tE tS tB tZ

theorem flatT2 (e : Int) (y : AV) (h : Flat y) : Flat (.t [y, .c (.int .i64 e)]) := Flat.t (by
  intro x hx
  simp only [List.mem_cons, List.not_mem_nil, or_false] at hx
  rcases hx with rfl | rfl
  · exact h
  · exact Flat.c _)
theorem flatR_el (l : List El) : FlatR (l.map El.av) := FlatR.map l (fun x y hy => by simp only [El.av, List.mem_cons, List.not_mem_nil, or_false] at hy; rcases hy with rfl | rfl | rfl | rfl | rfl <;> exact Flat.c _)
theorem weak_t2 {H H0 : Heap} {y e : AV} {ty sz : Nat} {rows : List (List AV)} (h : OwnL H y ty sz rows H0) : Weak (.t [y, e]) H (.t [.l sz rows, e]) H0 :=
  h.weak fun F F' hF hi _ => Imp.t (Imps.cons hi (fun _ => rfl) (Imps.cons (Imp.refl hF _) id Imps.nil))
theorem Encode_l (l : List El) (hl : l.length ≤ maxLen) {x : AV} {G : Heap} (hx : Lent G x (.l 5 (l.map El.av))) :
    ACall Try.prog 12 [x] G fun q H' => q = .t [.l 1 ((encR l).1.map by1), .c (.int .i64 (encR l).2)] ∧ H' = G :=
  ACall.weak ((ACall.lendT (R := fun y => .t [y, .c (.int .i64 (encR l).2)]) (flatT2 _) (flatR_by1 (encR l).1) (Lents.one hx) (Encode_g l hl _)).mono fun q H' h => by
    obtain ⟨y, rfl, h1⟩ := h
    exact ⟨_, _, weak_t2 h1, rfl, rfl⟩)
theorem Encode_p (l : List El) (hl : l.length ≤ maxLen) : Pure Try.prog 12 [.l 5 (l.map El.av)] (.t [.l 1 ((encR l).1.map by1), .c (.int .i64 (encR l).2)]) := fun H => Encode_l l hl (Lent.refl _ _)
theorem Decode_l (b : List Int) (ho : octs b) (hb : b.length ≤ 900000) {x : AV} {G : Heap} (hx : Lent G x (.l 1 (b.map by1))) :
    ACall Try.prog 9 [x] G fun q H' => q = .t [.l 5 ((decR b).1.map El.av), .c (.int .i64 (decR b).2)] ∧ H' = G :=
  ACall.weak ((ACall.lendT (R := fun y => .t [y, .c (.int .i64 (decR b).2)]) (flatT2 _) (flatR_el (decR b).1) (Lents.one hx) (Decode_g b ho hb _)).mono fun q H' h => by
    obtain ⟨y, rfl, h1⟩ := h
    exact ⟨_, _, weak_t2 h1, rfl, rfl⟩)
theorem Decode_p (b : List Int) (ho : octs b) (hb : b.length ≤ 900000) : Pure Try.prog 9 [.l 1 (b.map by1)] (.t [.l 5 ((decR b).1.map El.av), .c (.int .i64 (decR b).2)]) := fun H => Decode_l b ho hb (Lent.refl _ _)
theorem ww05a : encR [⟨2, 0, 0, 0, 7⟩, ⟨3, 0, 0, 0, 0⟩] = ([2, 2, 0, 0, 0, 0, 0, 0, 0, 7, 3], 0) := by decide +kernel
theorem ww05b : decR [2, 2, 0, 0, 0, 0, 0, 0, 0, 7, 3] = ([⟨2, 0, 0, 0, 7⟩, ⟨3, 0, 0, 0, 0⟩], 0) := by decide +kernel
theorem wakes05_p : Pure Try.prog 8 [] (.c (.bool true)) := by
  intro H
  have o1 := fun x G hL => Encode_l [⟨2, 0, 0, 0, 7⟩, ⟨3, 0, 0, 0, 0⟩] (by simp [maxLen]) (x := x) (G := G) hL
  have o2 := Decode_p [2, 2, 0, 0, 0, 0, 0, 0, 0, 7, 3] (by intro c hc; simp at hc; omega) (by simp)
  rw [ww05a] at o1
  rw [ww05b] at o2
  simp only [El.av, List.map_cons, List.map_nil] at o1 o2
  replace o1 := Lib.hid o1
  replace o2 := Lib.hid o2
  refine ACall_of' Try.func8 rfl (Ent_of Try.func8 (by kernel_rfl) rfl) (by simp [Try.ntmps8]) ?_; simp only [Try.ntmps8, Try.results8]
  repeat' (first
    | refine AW_seq_kn fun K hK => ?_
    | refine AW_block ?_
    | ((first
      | refine AW_region E0 ?_ | refine AW_ret ?_ | refine AW_exit ?_ | refine AW_skip ?_ | unfold retQ); try simp only [push_cast, seval, *])
    | ((first | (apply AW_cond; (case hc => (simp only [push_cast, seval]; rfl))) | (apply ER_guard; (case hb => (simp only [push_cast, seval]; rfl)))); all_goals ((intro hc; first | (exfalso; simp only [push_cast, seval, *] at hc; done) | (exact absurd hc (by decide)) | ((try first | rw [Bool.not_true] at hc | rw [Bool.not_false] at hc); first | (with_reducible replace hc := tTT hc); clear hc | (with_reducible replace hc := tFF hc); clear hc | (have hp := hc; try simp only [decide_eq_true_eq, decide_eq_false_iff_not, bA, bB, bC, bD, bE, bF, bG, bH] at hp))) <;> try simp only [push_cast, seval, *]))
    | (refine Kn.go hK ?_; clear hK K)
    | refine Kn.go (by assumption) ?_
    | (intro n hn; (try simp only [upd_none2, join_none_iff, ite_none, ne_eq] at hn); (try simp only [push_cast, seval, *]))
    | (intro hc)
    | (apply ER_blk; (case hp => rfl); (case hb => (simp only [push_cast, seval]; rfl)); (case hd => (simp only [push_cast, seval]; done)); (case h => (intro hc; simp only [push_cast, seval, *]; rfl)); simp only [push_cast, seval, *])
    | fail)
  refine does_call rfl rfl ?_
  simp only [push_cast, seval, *]
  refine ACall.mono (unhid o1 _ _ (Lent.s (n := n) (rows := [[.c (.int .i64 2), .c (.int .i64 0), .c (.int .i64 0), .c (.int .i64 0), .c (.int .u64 7)], [.c (.int .i64 3), .c (.int .i64 0), .c (.int .i64 0), .c (.int .i64 0), .c (.int .u64 0)]]) (by simp only [push_cast, seval, *]; rfl))) ?_
  rintro _ _ ⟨rfl, e2⟩
  have e3 := e2.symm; clear e2; subst e3
  (try simp only [push_cast, seval, *])
  repeat' (first
    | refine AW_seq_kn fun K hK => ?_
    | refine AW_block ?_
    | (refine does_call rfl rfl ?_; simp only [push_cast, seval, *]; refine ACall.monoP (unhid o2 _) ?_; (try simp only [push_cast, seval, *]))
    | ((first
      | refine AW_region E0 ?_ | refine AW_ret ?_ | refine AW_exit ?_ | refine AW_skip ?_ | unfold retQ); try simp only [push_cast, seval, *])
    | ((first | (apply AW_cond; (case hc => (simp only [push_cast, seval]; rfl))) | (apply ER_guard; (case hb => (simp only [push_cast, seval]; rfl)))); all_goals ((intro hc; first | (exfalso; simp only [push_cast, seval, *] at hc; done) | (exact absurd hc (by decide)) | ((try first | rw [Bool.not_true] at hc | rw [Bool.not_false] at hc); first | (with_reducible replace hc := tTT hc); clear hc | (with_reducible replace hc := tFF hc); clear hc | (have hp := hc; try simp only [decide_eq_true_eq, decide_eq_false_iff_not, bA, bB, bC, bD, bE, bF, bG, bH] at hp))) <;> try simp only [push_cast, seval, *]))
    | (refine Kn.go hK ?_; clear hK K)
    | refine Kn.go (by assumption) ?_
    | (intro n hn; (try simp only [upd_none2, join_none_iff, ite_none, ne_eq] at hn); (try simp only [push_cast, seval, *]))
    | (intro hc)
    | (apply ER_blk; (case hp => rfl); (case hb => (simp only [push_cast, seval]; rfl)); (case hd => (simp only [push_cast, seval]; done)); (case h => (intro hc; simp only [push_cast, seval, *]; rfl)); simp only [push_cast, seval, *])
    | fail)
  exact ⟨_, _, Weak.less (by (simp only [push_cast, seval, *])), rfl, rfl⟩

end Go.Proofs.Ytfdedgeljijfdaa
