/- Walks: both ends of a link; a packet comes. -/
import Derived.Test.YteoepeionomjlaaW0
namespace Go.Proofs.Yteoepeionomjlaa
open Go.RowKit
open Nat renaming reduceEqDiff → nA, reduceLT → nB, reduceLeDiff → nC, reduceAdd → nD, reduceMul → nE, reduceSub → nF, reduceBEq → nG
open Int renaming reduceToNat → iA, reduceLT → iB, reduceLE → iC, reduceEq → iD
open Bool renaming and_eq_true → bA, or_eq_true → bB, or_eq_false_iff → bC, and_eq_false_iff → bD, not_eq_true' → bE, not_eq_false' → bF, not_true → bG, not_false → bH
set_option linter.all false
set_option maxHeartbeats 4000000
attribute [local irreducible] AW Does

theorem OwnL.swap {H H1 H2 : Heap} {x y : AV} {t1 t2 : TypeId} {s1 s2 : Nat} {r1 r2 : List (List AV)} (h : OwnL H x t1 s1 r1 H1) (k : OwnL H1 y t2 s2 r2 H2) : ∃ G, OwnL H y t2 s2 r2 G ∧ OwnL G x t1 s1 r1 H2 := by
  rcases h with ⟨e1, e2, rfl⟩ | ⟨m, cap, e1, e2, rfl⟩
  · exact ⟨H2, k, .inl ⟨e1, e2, rfl⟩⟩
  · rcases k with ⟨g1, g2, rfl⟩ | ⟨n, cap2, g1, g2, rfl⟩
    · exact ⟨H, .inl ⟨g1, g2, rfl⟩, .inr ⟨m, cap, e1, e2, rfl⟩⟩
    · have hne : n ≠ m := by rintro rfl; rw [del_same] at g2; cases g2
      rw [del_ne hne] at g2
      refine ⟨del H n, .inr ⟨n, cap2, g1, g2, rfl⟩, .inr ⟨m, cap, e1, by rw [del_ne (Ne.symm hne)]; exact e2, ?_⟩⟩
      funext q; simp only [del]; split <;> split <;> rfl
theorem hle_upd2 {B B' : Heap} (h : Heap.le B B') (n : Nat) (k : Blk) : Heap.le (upd B n k) (upd B' n k) := fun m x hm => by
  by_cases e : m = n
  · subst e; rw [upd_same] at hm ⊢; exact hm
  · rw [upd_ne e] at hm ⊢; exact h m x hm
structure Bt where
  s : Snd
  r : Rcv
  way : List Pk
  put : List El
  taken : List El
def btL (b : Bt) (xw xp xt : AV) : List AV := [.c (.int .u32 b.s.se), .c (.int .u64 b.s.ba), .l 5 (b.s.q.map El.av), .c (.int .u64 b.s.li), .c (.bool b.s.en), .c (.int .u32 b.r.se), .c (.int .u64 b.r.nx), .l 5 (b.r.b.map El.av), .c (.int .i64 b.r.ro), xw, xp, xt]
attribute [push_cast] btL
abbrev btB (b : Bt) (xw xp xt : AV) : Blk := .r 82 12 1 [btL b xw xp xt]
structure Bx (B : Heap) (nb : Nat) (b : Bt) (xw xp xt : AV) (B1 B2 B3 : Heap) : Prop where
  w : OwnL B xw 35 9 (b.way.map Pk.av) B1
  p : OwnL B1 xp 33 5 (b.put.map El.av) B2
  t : OwnL B2 xt 33 5 (b.taken.map El.av) B3
  b : B3 nb = some (btB b xw xp xt)
def Bo (B : Heap) (nb : Nat) (b : Bt) : Prop := ∃ xw xp xt B1 B2 B3, Bx B nb b xw xp xt B1 B2 B3
theorem Bx.get {B : Heap} {nb : Nat} {b : Bt} {xw xp xt : AV} {B1 B2 B3 : Heap} (h : Bx B nb b xw xp xt B1 B2 B3) : B nb = some (btB b xw xp xt) := h.w.get (h.p.get (h.t.get h.b))
theorem Bx.turn {B : Heap} {nb : Nat} {b : Bt} {xw xp xt : AV} {B1 B2 B3 : Heap} (h : Bx B nb b xw xp xt B1 B2 B3) (b' : Bt) (e1 : b'.way = b.way) (e2 : b'.put = b.put) (e3 : b'.taken = b.taken) : Bo (upd B nb (btB b' xw xp xt)) nb b' :=
  ⟨xw, xp, xt, _, _, _, by rw [e1]; exact h.w.turn (h.p.get (h.t.get h.b)) _, by rw [e2]; exact h.p.turn (h.t.get h.b) _, by rw [e3]; exact h.t.turn h.b _, upd_same _ _ _⟩
theorem Bx.setw {B H' : Heap} {nb : Nat} {b : Bt} {xw xp xt x' : AV} {B1 B2 B3 : Heap} {way' : List Pk} (h : Bx B nb b xw xp xt B1 B2 B3) (hw : OwnL H' x' 35 9 (way'.map Pk.av) B1) : Bo (upd H' nb (btB { b with way := way' } x' xp xt)) nb { b with way := way' } :=
  ⟨x', xp, xt, _, _, _, hw.turn (h.p.get (h.t.get h.b)) _, h.p.turn (h.t.get h.b) _, h.t.turn h.b _, upd_same _ _ _⟩
def ackd (p : Pk) : Bool := decide (p.kd = 2)
def comesS (b : Bt) (p : Pk) : Bt := if p.kd = 2 then { b with s := ackS b.s p } else { b with r := hearS b.r p }
theorem comes_a (b : Bt) (p : Pk) (nb : Nat) (B : Heap) (hB : Bo B nb b) (hs : sndOk b.s = true) (hr : rcvOk b.r = true) :
    ACall Try.prog 39 [.p nb 12 0 0, .g (Pk.av p)] B fun r B' => r = .c (.bool true) ∧ Bo B' nb (comesS b p) := by
  obtain ⟨xw, xp, xt, B1, B2, B3, hx⟩ := hB
  have hkt := hx.get
  have hne := ne_old hkt
  have c1 := hx.w.cs
  have c2 := hx.p.cs
  have c3 := hx.t.cs
  have hsl := sndOk_len hs
  have hrl := (rcvOk_len hr).1
  simp only [btB, btL] at hkt
  have e1 : eA b.s = 0 := by simp [eA, sendE, hs]
  have e2 : sA b.s p = ackS b.s p := by simp [sA, sendS, sendE, hs]
  have e3 : eH b.r = 0 := by simp [eH, hearE0, hr]
  have e4 : rH b.r p = hearS b.r p := by simp [rH, hearS0, hearE0, hr]
  have o1 := acked_p b.s p (by omega)
  have o2 := hear_p b.r p (by omega)
  rw [e1, e2] at o1
  rw [e3, e4] at o2
  clear e1 e2 e3 e4 hs hr hsl hrl
  by_cases hk : p.kd = 2
  · have hkT : (p.kd = 2) = True := by simp [hk]
    have hS : comesS b p = { b with s := ackS b.s p } := by unfold comesS; rw [if_pos hk]
    replace hk := Lib.hid hk
    replace hx := Lib.hid hx
    rw [hS]
    clear hS
    refine ACall_of' Try.func39 rfl (Ent_of Try.func39 (by kernel_rfl) rfl) (by simp [Try.ntmps39]) ?_; simp only [Try.ntmps39, Try.results39]
    repeat' (first
    | refine AW_seq_kn fun K hK => ?_
    | refine AW_block ?_
    | (refine does_call rfl rfl ?_; simp only [push_cast, reduceIte, nA, nB, nC, reduceCtorEq, nD, nE, nF, nG, iA, iB, iC, iD, *]; refine ACall.mono (o1 _) ?_; (rintro _ _ ⟨rfl, e2⟩; have e3 := e2.symm; clear e2; subst e3); (try simp only [push_cast, reduceIte, nA, nB, nC, reduceCtorEq, nD, nE, nF, nG, iA, iB, iC, iD, *]))
    | ((first
      | refine AW_region_draw (id := 2) E1 (fun f => [].contains f) [(0, false, []), (1, false, []), (2, false, []), (3, false, []), (4, false, []), (5, false, [9]), (6, false, []), (7, false, []), (8, false, []), (9, false, []), (10, false, []), (11, false, [])] [[], [0], [0, 1], [0, 1, 2], [], [0, 1, 2, 3, 4], [0, 1, 2, 3, 4, 5], [0, 1, 2, 3, 4, 5, 6], [0, 1, 2, 3, 4, 5, 6], [], [0, 1, 2, 3, 4, 5, 6, 7, 9], [0, 1, 2, 3, 4, 5, 6, 7, 8, 9, 10]] mixed (by kernel_rfl) ?_
      | refine AW_region_draw (id := 5) E1 (fun f => [].contains f) [(0, false, []), (1, false, []), (2, false, []), (3, false, []), (4, false, []), (5, false, [9]), (6, false, []), (7, false, []), (8, false, []), (9, false, []), (10, false, []), (11, false, [])] [[], [0], [0, 1], [0, 1, 2], [], [0, 1, 2, 3, 4], [0, 1, 2, 3, 4, 5], [0, 1, 2, 3, 4, 5, 6], [0, 1, 2, 3, 4, 5, 6], [], [0, 1, 2, 3, 4, 5, 6, 7, 9], [0, 1, 2, 3, 4, 5, 6, 7, 8, 9, 10]] mixed (by kernel_rfl) ?_
      | refine AW_region E1 ?_ | refine AW_ret ?_ | refine AW_exit ?_ | refine AW_skip ?_ | unfold retQ); try simp only [push_cast, reduceIte, nA, nB, nC, reduceCtorEq, nD, nE, nF, nG, iA, iB, iC, iD, *])
    | (apply AW_cond; (case hc => (simp only [push_cast, reduceIte, nA, nB, nC, reduceCtorEq, nD, nE, nF, nG, iA, iB, iC, iD]; rfl)); all_goals (intro hc; first | (exfalso; simp only [push_cast, reduceIte, nA, nB, nC, reduceCtorEq, nD, nE, nF, nG, iA, iB, iC, iD, *] at hc; done) | (exact absurd hc (by decide)) | (with_reducible (have hcc : true = true := hc); clear hcc hc) | (with_reducible (have hcc : false = false := hc); clear hcc hc) | ((try simp only [Bool.not_true, Bool.not_false] at hc); (first | (with_reducible (have hcc : true = true := hc); clear hcc hc) | (with_reducible (have hcc : false = false := hc); clear hcc hc) | (have hp := hc; (try simp only [decide_eq_true_eq, decide_eq_false_iff_not, bA, bB, bC, bD, bE, bF, bG, bH] at hp))))))
    | (refine Kn.go hK ?_; clear hK K)
    | refine Kn.go (by assumption) ?_
    | (intro n hn; (try simp only [upd_none2, join_none_iff, ite_none, ne_eq] at hn); (try simp only [push_cast, reduceIte, nA, nB, nC, reduceCtorEq, nD, nE, nF, nG, iA, iB, iC, iD, *]))
    | (intro hc)
    | fail)
    have hx : Bx B nb b xw xp xt B1 B2 B3 := hx
    refine ⟨_, _, Weak.less ?_, rfl, hx.turn { b with s := ackS b.s p } rfl rfl rfl⟩
    refine hle_upd2 ?_ _ _
    (simp only [push_cast, reduceIte, nA, nB, nC, reduceCtorEq, nD, nE, nF, nG, iA, iB, iC, iD, *])
  · have hS : comesS b p = { b with r := hearS b.r p } := by unfold comesS; rw [if_neg hk]
    replace hx := Lib.hid hx
    rw [hS]
    clear hS
    refine ACall_of' Try.func39 rfl (Ent_of Try.func39 (by kernel_rfl) rfl) (by simp [Try.ntmps39]) ?_; simp only [Try.ntmps39, Try.results39]
    repeat' (first
    | refine AW_seq_kn fun K hK => ?_
    | refine AW_block ?_
    | (refine does_call rfl rfl ?_; simp only [push_cast, reduceIte, nA, nB, nC, reduceCtorEq, nD, nE, nF, nG, iA, iB, iC, iD, *]; refine ACall.mono (o2 _) ?_; (rintro _ _ ⟨rfl, e2⟩; have e3 := e2.symm; clear e2; subst e3); (try simp only [push_cast, reduceIte, nA, nB, nC, reduceCtorEq, nD, nE, nF, nG, iA, iB, iC, iD, *]))
    | ((first
      | refine AW_region_draw (id := 2) E1 (fun f => [].contains f) [(0, false, []), (1, false, []), (2, false, []), (3, false, []), (4, false, []), (5, false, [9]), (6, false, []), (7, false, []), (8, false, []), (9, false, []), (10, false, []), (11, false, [])] [[], [0], [0, 1], [0, 1, 2], [], [0, 1, 2, 3, 4], [0, 1, 2, 3, 4, 5], [0, 1, 2, 3, 4, 5, 6], [0, 1, 2, 3, 4, 5, 6], [], [0, 1, 2, 3, 4, 5, 6, 7, 9], [0, 1, 2, 3, 4, 5, 6, 7, 8, 9, 10]] mixed (by kernel_rfl) ?_
      | refine AW_region_draw (id := 5) E1 (fun f => [].contains f) [(0, false, []), (1, false, []), (2, false, []), (3, false, []), (4, false, []), (5, false, [9]), (6, false, []), (7, false, []), (8, false, []), (9, false, []), (10, false, []), (11, false, [])] [[], [0], [0, 1], [0, 1, 2], [], [0, 1, 2, 3, 4], [0, 1, 2, 3, 4, 5], [0, 1, 2, 3, 4, 5, 6], [0, 1, 2, 3, 4, 5, 6], [], [0, 1, 2, 3, 4, 5, 6, 7, 9], [0, 1, 2, 3, 4, 5, 6, 7, 8, 9, 10]] mixed (by kernel_rfl) ?_
      | refine AW_region E1 ?_ | refine AW_ret ?_ | refine AW_exit ?_ | refine AW_skip ?_ | unfold retQ); try simp only [push_cast, reduceIte, nA, nB, nC, reduceCtorEq, nD, nE, nF, nG, iA, iB, iC, iD, *])
    | (apply AW_cond; (case hc => (simp only [push_cast, reduceIte, nA, nB, nC, reduceCtorEq, nD, nE, nF, nG, iA, iB, iC, iD]; rfl)); all_goals (intro hc; first | (exfalso; simp only [push_cast, reduceIte, nA, nB, nC, reduceCtorEq, nD, nE, nF, nG, iA, iB, iC, iD, *] at hc; done) | (exact absurd hc (by decide)) | (with_reducible (have hcc : true = true := hc); clear hcc hc) | (with_reducible (have hcc : false = false := hc); clear hcc hc) | ((try simp only [Bool.not_true, Bool.not_false] at hc); (first | (with_reducible (have hcc : true = true := hc); clear hcc hc) | (with_reducible (have hcc : false = false := hc); clear hcc hc) | (have hp := hc; (try simp only [decide_eq_true_eq, decide_eq_false_iff_not, bA, bB, bC, bD, bE, bF, bG, bH] at hp))))))
    | (refine Kn.go hK ?_; clear hK K)
    | refine Kn.go (by assumption) ?_
    | (intro n hn; (try simp only [upd_none2, join_none_iff, ite_none, ne_eq] at hn); (try simp only [push_cast, reduceIte, nA, nB, nC, reduceCtorEq, nD, nE, nF, nG, iA, iB, iC, iD, *]))
    | (intro hc)
    | fail)
    have hx : Bx B nb b xw xp xt B1 B2 B3 := hx
    refine ⟨_, _, Weak.less ?_, rfl, hx.turn { b with r := hearS b.r p } rfl rfl rfl⟩
    refine hle_upd2 ?_ _ _
    (simp only [push_cast, reduceIte, nA, nB, nC, reduceCtorEq, nD, nE, nF, nG, iA, iB, iC, iD, *])
end Go.Proofs.Yteoepeionomjlaa
