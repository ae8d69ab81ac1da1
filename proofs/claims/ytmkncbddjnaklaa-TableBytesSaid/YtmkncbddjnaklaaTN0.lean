/- Walks: records are done, one behind the other. -/
import Derived.Test.YtmkncbddjnaklaaTM
import Derived.Test.YtmkncbddjnaklaaH
namespace Go.Proofs.Ytmkncbddjnaklaa
open Go.RowKit
open Nat renaming reduceEqDiff → nA, reduceLT → nB, reduceLeDiff → nC, reduceAdd → nD, reduceMul → nE, reduceSub → nF, reduceBEq → nG
open Int renaming reduceToNat → iA, reduceLT → iB, reduceLE → iC, reduceEq → iD
open Bool renaming and_eq_true → bA, or_eq_true → bB, or_eq_false_iff → bC, and_eq_false_iff → bD, not_eq_true' → bE, not_eq_false' → bF, not_true → bG, not_false → bH
set_option linter.all false
set_option maxHeartbeats 4000000
attribute [local irreducible] AW Does ACall tE tS tB tZ

theorem runS1_len (o : OpD) (c : CellD) (v : Int) : (runS o c [v]).2.1.length ≤ 1 := by
  unfold runS
  have := flowS_len o [v] c
  repeat' split
  all_goals simp at *
  all_goals omega
theorem TwoO.csx {Q : Heap} {nb no : Nat} {x y : AV} {T : List KC} {O : List Rec} {B : Heap} (h : TwoO Q nb no x y T O B) : x.cs = some [x] := by
  obtain ⟨G, h1, h2, h3⟩ := h; exact h2.cs
theorem TwoO.csy {Q : Heap} {nb no : Nat} {x y : AV} {T : List KC} {O : List Rec} {B : Heap} (h : TwoO Q nb no x y T O B) : y.cs = some [y] := by
  obtain ⟨G, h1, h2, h3⟩ := h; exact h1.cs
theorem TwoO.row {Q : Heap} {nb no : Nat} {x y : AV} {T : List KC} {O : List Rec} {B : Heap} (h : TwoO Q nb no x y T O B) (hne : T ≠ []) : ∃ m cap, x = .s m 4 0 T.length cap ∧ B m = some (.r 80 4 cap (T.map KC.av)) := by
  obtain ⟨G, h1, h2, h3⟩ := h
  rcases h2.split with ⟨ad, rfl, e0, e1⟩ | ⟨m, cap, rfl, e1, hm⟩
  · exact absurd (List.map_eq_nil_iff.1 e0) hne
  · exact ⟨m, cap, by rw [List.length_map], by rw [e1]; exact upd_same _ _ _⟩
theorem TwoO.at {Q : Heap} {nb no : Nat} {x y : AV} {T : List KC} {O : List Rec} {B : Heap} (h : TwoO Q nb no x y T O B) (hl : T.length ≤ 1000000) (hr : Rise T) (r : Rec) :
    ACall Try.prog 85 [x, .g (Rec.av r)] B (fun q H' => q = .t [.c (.int .i64 (atI T r : Nat)), .c (.bool (atB T r))] ∧ H' = B) := by
  obtain ⟨G, h1, h2, h3⟩ := h
  exact ACall.lend (args' := [.l 4 (T.map KC.av), .g (Rec.av r)]) (Flat.two _ _) (show Lent _ _ _ ∧ Lent _ _ _ ∧ True from ⟨h2.lent, Lent.refl _ _, trivial⟩) (at_p T hl hr r).cl
theorem TwoO.turn {Q : Heap} {nb no : Nat} {x y : AV} {T : List KC} {O : List Rec} {B : Heap} (h : TwoO Q nb no x y T O B) (hno : Q no = none) {m : Nat} {k0 : Blk} (hm : Q m = some k0) (k : Blk) : TwoO (upd Q m k) nb no x y T O (upd B m k) := by
  obtain ⟨G, h1, h2, h3⟩ := h
  have e1 : m ≠ no := by rintro rfl; rw [hno] at hm; cases hm
  have q1 : upd Q no (bxO y) m = some k0 := by rw [upd_ne e1]; exact hm
  have g1 : G m = some k0 := h1.get q1
  have e2 : m ≠ nb := by rintro rfl; rw [h3] at g1; cases g1
  have t1 := h1.turn q1 k
  rw [upd_comm (Ne.symm e1)] at t1
  have t2 := h2.turn (m := m) (k0 := k0) (by rw [upd_ne e2]; exact g1) k
  rw [upd_comm (Ne.symm e2)] at t2
  exact ⟨upd G m k, t1, t2, by rw [upd_ne (Ne.symm e2)]; exact h3⟩
end Go.Proofs.Ytmkncbddjnaklaa
