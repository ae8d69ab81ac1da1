/- Walks: Run, Part and Encode, frozen; the layer does something. -/
import Derived.Test.YtmkncbddjnaklaaUC
import Derived.Test.YtmkncbddjnaklaaUE
import Derived.Test.YtmkncbddjnaklaaTR
namespace Go.Proofs.Ytmkncbddjnaklaa
open Go.RowKit
open Nat renaming reduceEqDiff → nA, reduceLT → nB, reduceLeDiff → nC, reduceAdd → nD, reduceMul → nE, reduceSub → nF, reduceBEq → nG
open Int renaming reduceToNat → iA, reduceLT → iB, reduceLE → iC, reduceEq → iD
open Bool renaming and_eq_true → bA, or_eq_true → bB, or_eq_false_iff → bC, and_eq_false_iff → bD, not_eq_true' → bE, not_eq_false' → bF, not_true → bG, not_false → bH
set_option linter.all false
set_option maxHeartbeats 4000000
attribute [local irreducible] AW Does ACall tE tS tB tZ

theorem flatR_kc (l : List KC) : FlatR (l.map KC.av) := FlatR.map l (fun x y hy => by simp only [KC.av, List.mem_cons, List.not_mem_nil, or_false] at hy; rcases hy with rfl | rfl | rfl | rfl <;> exact Flat.c _)
theorem flatR_rec (l : List Rec) : FlatR (l.map Rec.av) := FlatR.map l (fun x y hy => by simp only [Rec.av, List.mem_cons, List.not_mem_nil, or_false] at hy; rcases hy with rfl | rfl | rfl <;> exact Flat.c _)
/-- a table and records of one's own, frozen -/
theorem weak_two {H G H0 : Heap} {y yo e : AV} {T : List KC} {O : List Rec} (h1 : OwnL H y 80 4 (T.map KC.av) G) (h2 : OwnL G yo 54 3 (O.map Rec.av) H0) : Weak (.t [.g [y], yo, e]) H (.t [.g [.l 4 (T.map KC.av)], .l 3 (O.map Rec.av), e]) H0 :=
  (h1.weak (r' := .t [.g [.l 4 (T.map KC.av)], yo, e]) fun F F' hF hi _ => Imp.t (Imps.cons (Imp.g (Imps.cons hi (fun _ => rfl) Imps.nil)) id (Imps.cons (Imp.refl hF _) id (Imps.cons (Imp.refl hF _) id Imps.nil)))).trans
    (h2.weak fun F F' hF hi _ => Imp.t (Imps.cons (Imp.refl hF _) id (Imps.cons hi (fun _ => rfl) (Imps.cons (Imp.refl hF _) id Imps.nil))))
theorem weak_tab {H H0 : Heap} {y e : AV} {T : List KC} (h1 : OwnL H y 80 4 (T.map KC.av) H0) : Weak (.t [.g [y], e]) H (.t [.g [.l 4 (T.map KC.av)], e]) H0 :=
  h1.weak fun F F' hF hi _ => Imp.t (Imps.cons (Imp.g (Imps.cons hi (fun _ => rfl) Imps.nil)) id (Imps.cons (Imp.refl hF _) id Imps.nil))
theorem tRun_l (o : OpD) (hlO : o.ins.length ≤ maxLen) (hA : o.A ≤ 9223372036854775807) (T : List KC) (hT : T.length ≤ 90000) (l : List Rec) (hl : l.length ≤ maxLen) {args : List AV} {G : Heap} (hL : Lents G args [.g (OpD.av o), .g [.l 4 (T.map KC.av)], .l 3 (l.map Rec.av)]) :
    ACall Try.prog 37 args G fun q H' => q = .t [.g [.l 4 ((RunD o T l).1.map KC.av)], .l 3 ((RunD o T l).2.1.map Rec.av), .c (.int .i64 (RunD o T l).2.2)] ∧ H' = G :=
  ACall.weak ((ACall.lendG (fun r G' h => by
    obtain ⟨y, yo, rfl, G1, h1, h2⟩ := h
    exact ⟨Flat.t (by
      intro x hx
      simp only [List.mem_cons, List.not_mem_nil, or_false] at hx
      rcases hx with rfl | rfl | rfl
      · exact Flat.g (by intro x hx; simp only [List.mem_cons, List.not_mem_nil, or_false] at hx; subst hx; exact h1.flat)
      · exact h2.flat
      · exact Flat.c _), h1.flatH (flatR_kc _) (h2.flatH (flatR_rec _) FlatH.none)⟩) hL (tRun_o o hlO hA T hT l hl _)).mono fun r H' h => by
    obtain ⟨G', rfl, hap, y, yo, rfl, G1, h1, h2⟩ := h
    have j1 := ownL_join hap h1
    have j2 := ownL_join (apart_le hap h1.le) h2
    rw [join_none] at j2
    exact ⟨_, _, weak_two j1 j2, rfl, rfl⟩)
theorem tRun_p (o : OpD) (hlO : o.ins.length ≤ maxLen) (hA : o.A ≤ 9223372036854775807) (T : List KC) (hT : T.length ≤ 90000) (l : List Rec) (hl : l.length ≤ maxLen) :
    Pure Try.prog 37 [.g (OpD.av o), .g [.l 4 (T.map KC.av)], .l 3 (l.map Rec.av)] (.t [.g [.l 4 ((RunD o T l).1.map KC.av)], .l 3 ((RunD o T l).2.1.map Rec.av), .c (.int .i64 (RunD o T l).2.2)]) := fun H =>
  tRun_l o hlO hA T hT l hl (Lents.refl _ _)
theorem Part_p (l : List KC) (hl : l.length ≤ 1000000) (i w : Int) :
    Pure Try.prog 43 [.g [.l 4 (l.map KC.av)], ci i, ci w] (.t [.g [.l 4 ((partS l i w).1.map KC.av)], .c (.int .i64 (partS l i w).2)]) := fun H =>
  ACall.weak ((Part_o l hl i w H).mono fun q H' h => by
    obtain ⟨y, rfl, h1⟩ := h
    exact ⟨_, _, weak_tab h1, rfl, rfl⟩)
theorem Encode_p (l : List KC) (hl : l.length ≤ 50000) :
    Pure Try.prog 56 [.g [.l 4 (l.map KC.av)]] (.t [.l 1 ((encE l).1.map by1), .c (.int .i64 (encE l).2)]) := fun H =>
  ACall.weak ((Encode_o l hl H).mono fun q H' h => by
    obtain ⟨y, rfl, h1⟩ := h
    exact ⟨_, _, h1.weak fun F F' hF hi _ => Imp.t (Imps.cons hi (fun _ => rfl) (Imps.cons (Imp.refl hF _) id Imps.nil)), rfl, rfl⟩)
theorem reduce_p : Pure Try.prog 67 [] (.g (OpD.av ⟨4, 1, [0], 0, 0⟩)) := by
  intro H
  refine ACall_of' Try.func67 rfl (Ent_of Try.func67 (by kernel_rfl) rfl) (by simp [Try.ntmps67]) ?_; simp only [Try.ntmps67, Try.results67]
  repeat' (first
    | refine AW_seq_kn fun K hK => ?_
    | refine AW_block ?_
    | ((first
      | refine AW_region E0 ?_ | refine AW_ret ?_ | refine AW_exit ?_ | refine AW_skip ?_ | unfold retQ); try simp only [push_cast, seval, *])
    | (apply AW_cond; (case hc => (simp only [push_cast, seval]; rfl)); all_goals (intro hc; first | (exfalso; simp only [push_cast, seval, *] at hc; done) | (exact absurd hc (by decide)) | ((try first | rw [Bool.not_true] at hc | rw [Bool.not_false] at hc); first | (with_reducible replace hc := tTT hc); clear hc | (with_reducible replace hc := tFF hc); clear hc | (have hp := hc; try simp only [decide_eq_true_eq, decide_eq_false_iff_not, bA, bB, bC, bD, bE, bF, bG, bH] at hp))))
    | (refine Kn.go hK ?_; clear hK K)
    | refine Kn.go (by assumption) ?_
    | (intro n hn; (try simp only [upd_none2, join_none_iff, ite_none, ne_eq] at hn); (try simp only [push_cast, seval, *]))
    | (intro hc)
    | fail)
  rename_i n1 h1
  refine ⟨_, _, ?_, rfl, rfl⟩
  (refine Weak.frzK n (by simp only [upd_get, del_get, if_true, if_false, reduceIte, *]; rfl) ?_; simp only [push_cast, frz, frzL, frzR, List.getElem?_cons_zero, List.length_cons, List.length_nil, List.drop_zero, and_self, and_true, true_and, and_false, false_and, if_true, if_false, reduceIte, Nat.reduceLeDiff, Nat.reduceAdd, Nat.reduceEqDiff, List.take_succ_cons, List.take_zero, List.take_nil, *])
  exact Weak.less (by (simp only [push_cast, seval, *]))
def wO : OpD := ⟨4, 1, [0], 0, 0⟩
theorem ww12a : RunD wO [] [⟨0, 3, 5⟩, ⟨0, 4, 1⟩, ⟨0, 3, 2⟩] = ([⟨0, 3, 2, 7⟩, ⟨0, 4, 1, 1⟩], [⟨0, 3, 5⟩, ⟨0, 4, 1⟩, ⟨0, 3, 7⟩], 0) := by decide +kernel
theorem ww12b : partS [⟨0, 3, 2, 7⟩, ⟨0, 4, 1, 1⟩] 0 2 = ([⟨0, 3, 2, 7⟩], 0) := by decide +kernel
theorem ww12c : (encE [⟨0, 3, 2, 7⟩]).1.length = 20 ∧ (encE [⟨0, 3, 2, 7⟩]).2 = 0 := by decide +kernel
theorem wakes12_p : Pure Try.prog 29 [] (.c (.bool true)) := by
  intro H
  have o0 := reduce_p
  have o1 := fun args G hL => tRun_l wO (by simp [wO, maxLen]) (by simp [wO]) [] (by simp) [⟨0, 3, 5⟩, ⟨0, 4, 1⟩, ⟨0, 3, 2⟩] (by simp [maxLen]) (args := args) (G := G) hL
  have o2 := Part_p [⟨0, 3, 2, 7⟩, ⟨0, 4, 1, 1⟩] (by simp) 0 2
  have o3 := Encode_p [⟨0, 3, 2, 7⟩] (by simp)
  obtain ⟨e1, e2⟩ := ww12c
  rw [ww12a] at o1
  rw [ww12b] at o2
  rw [e2] at o3
  generalize (encE [⟨0, 3, 2, 7⟩]).1 = X at *
  simp only [OpD.av, KC.av, Rec.av, wO, i1, List.map_cons, List.map_nil] at o0 o1 o2 o3
  replace o1 := Lib.hid o1
  refine ACall_of' Try.func29 rfl (Ent_of Try.func29 (by kernel_rfl) rfl) (by simp [Try.ntmps29]) ?_; simp only [Try.ntmps29, Try.results29]
  repeat' (first
    | refine AW_seq_kn fun K hK => ?_
    | refine AW_block ?_
    | (refine does_call rfl rfl ?_; simp only [push_cast, seval, *]; refine ACall.monoP (o0 _) ?_; (try simp only [push_cast, seval, *]))
    | ((first
      | refine AW_region E0 ?_ | refine AW_ret ?_ | refine AW_exit ?_ | refine AW_skip ?_ | unfold retQ); try simp only [push_cast, seval, *])
    | ((first | (apply AW_cond; (case hc => (simp only [push_cast, seval]; rfl))) | (apply ER_guard; (case hb => (simp only [push_cast, seval]; rfl)))); all_goals ((intro hc; first | (exfalso; simp only [push_cast, seval, *] at hc; done) | (exact absurd hc (by decide)) | ((try first | rw [Bool.not_true] at hc | rw [Bool.not_false] at hc); first | (with_reducible replace hc := tTT hc); clear hc | (with_reducible replace hc := tFF hc); clear hc | (have hp := hc; try simp only [decide_eq_true_eq, decide_eq_false_iff_not, bA, bB, bC, bD, bE, bF, bG, bH] at hp))) <;> try simp only [push_cast, seval, *]))
    | (refine Kn.go hK ?_; clear hK K)
    | refine Kn.go (by assumption) ?_
    | (intro n hn; (try simp only [upd_none2, join_none_iff, ite_none, ne_eq] at hn); (try simp only [push_cast, seval, *]))
    | (intro hc)
    | (apply ER_blk; (case hp => rfl); (case hb => (simp only [push_cast, seval]; rfl)); (case hd => (simp only [push_cast, seval]; done)); (case h => (intro hc; simp only [push_cast, seval, *]; rfl)); simp only [push_cast, seval, *])
    | fail)
  refine does_call rfl rfl ?_
  simp only [push_cast, seval, *]
  refine ACall.mono (unhid o1 _ _ (show Lent _ _ _ ∧ Lent _ _ _ ∧ Lent _ _ _ ∧ True from ⟨Lent.refl _ _, Lent.g (show Lent _ _ _ ∧ True from ⟨(OwnL.nil _ 0 4).lent, trivial⟩) (by simp [AV.one]), Lent.s (n := n) (rows := [[.c (.int .i64 0), .c (.int .i64 3), .c (.int .i64 5)], [.c (.int .i64 0), .c (.int .i64 4), .c (.int .i64 1)], [.c (.int .i64 0), .c (.int .i64 3), .c (.int .i64 2)]]) (by simp only [push_cast, seval, *]; rfl), trivial⟩)) ?_
  rintro _ _ ⟨rfl, e2⟩
  have e3 := e2.symm; clear e2; subst e3
  (try simp only [push_cast, seval, *])
  repeat' (first
    | refine AW_seq_kn fun K hK => ?_
    | refine AW_block ?_
    | (refine does_call rfl rfl ?_; simp only [push_cast, seval, *]; refine ACall.monoP (o2 _) ?_; (try simp only [push_cast, seval, *]))
    | (refine does_call rfl rfl ?_; simp only [push_cast, seval, *]; refine ACall.monoP (o3 _) ?_; (try simp only [push_cast, seval, *]))
    | ((first
      | refine AW_region E0 ?_ | refine AW_ret ?_ | refine AW_exit ?_ | refine AW_skip ?_ | unfold retQ); try simp only [push_cast, seval, *])
    | ((first | (apply AW_cond; (case hc => (simp only [push_cast, seval]; rfl))) | (apply ER_guard; (case hb => (simp only [push_cast, seval]; rfl)))); all_goals ((intro hc; first | (exfalso; simp only [push_cast, seval, *] at hc; done) | (exact absurd hc (by decide)) | ((try first | rw [Bool.not_true] at hc | rw [Bool.not_false] at hc); first | (with_reducible replace hc := tTT hc); clear hc | (with_reducible replace hc := tFF hc); clear hc | (have hp := hc; try simp only [decide_eq_true_eq, decide_eq_false_iff_not, bA, bB, bC, bD, bE, bF, bG, bH] at hp))) <;> try simp only [push_cast, seval, *]))
    | (refine Kn.go hK ?_; clear hK K)
    | refine Kn.go (by assumption) ?_
    | (intro n hn; (try simp only [upd_none2, join_none_iff, ite_none, ne_eq] at hn); (try simp only [push_cast, seval, *]))
    | (intro hc)
    | (apply ER_blk; (case hp => rfl); (case hb => (simp only [push_cast, seval]; rfl)); (case hd => (simp only [push_cast, seval]; done)); (case h => (intro hc; simp only [push_cast, seval, *]; rfl)); simp only [push_cast, seval, *])
    | fail)
  exact ⟨_, _, Weak.less (by (simp only [push_cast, seval, *])), rfl, rfl⟩

end Go.Proofs.Ytmkncbddjnaklaa
