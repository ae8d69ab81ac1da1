/- Walks: the law's sinks do something (wakes of chapter 17). -/
import Derived.Test.YtdeckjoeggmagaaSF
import Derived.Test.YtdeckjoeggmagaaSG
namespace Go.Proofs.Ytdeckjoeggmagaa
open Go.RowKit
open Nat renaming reduceEqDiff → nA, reduceLT → nB, reduceLeDiff → nC, reduceAdd → nD, reduceMul → nE, reduceSub → nF, reduceBEq → nG
open Int renaming reduceToNat → iA, reduceLT → iB, reduceLE → iC, reduceEq → iD
open Bool renaming and_eq_true → bA, or_eq_true → bB, or_eq_false_iff → bC, and_eq_false_iff → bD, not_eq_true' → bE, not_eq_false' → bF, not_true → bG, not_false → bH
set_option linter.all false
set_option maxHeartbeats 4000000
attribute [local irreducible] AW Does ACall tE tS tB tZ
set_option maxRecDepth 5000

theorem skc_flat {s : Sk} {z : AV} (h : Flat z) : Flat (.g (skc s z)) := Flat.g (by intro w hw; simp only [List.mem_cons, List.not_mem_nil, or_false] at hw; rcases hw with rfl | rfl | rfl | rfl | rfl <;> first | exact h | exact Flat.c _)
theorem New_l (sub att : Int) (rdy : List Nm) (hr : rdy.length ≤ 1000000) {x : AV} {M : Heap} (hx : Lent M x (.l 3 (rdy.map Nm.av))) :
    ACall Try.prog 40 [.c (.int .i64 sub), .c (.int .i64 att), x] M fun r H' => ∃ z, r = .t [.g (skc (newR sub att rdy).1 z), .c (.int .i64 (newR sub att rdy).2)] ∧ OwnL H' z 26 3 ((newR sub att rdy).1.rdy.map Nm.av) M := by
  have h2 := ACall.lendG (H := M) (args' := [.c (.int .i64 sub), .c (.int .i64 att), .l 3 (rdy.map Nm.av)]) (args := [.c (.int .i64 sub), .c (.int .i64 att), x]) (fun r G ⟨z, e, ho⟩ => ⟨by
      rw [e]
      exact Flat.t (by intro w hw; simp only [List.mem_cons, List.not_mem_nil, or_false] at hw; rcases hw with rfl | rfl <;> first | exact skc_flat (OwnL.flat ho) | exact Flat.c _), OwnL.flatH ho (nm_flat _) FlatH.none⟩)
    (show Lent M _ _ ∧ Lent M _ _ ∧ Lent M _ _ ∧ True from ⟨Lent.refl _ _, Lent.refl _ _, hx, trivial⟩) (New_o sub att rdy hr emp)
  refine h2.mono ?_
  rintro r H' ⟨G, rfl, hap, z, e, ho⟩
  refine ⟨z, e, ?_⟩
  have := (Loc.own z _ _ _).frame ho hap.symm
  rwa [join_comm hap.symm, show join emp M = M from funext fun q => by simp [join]] at this
theorem skc_weak {s : Sk} {z : AV} {H H0 : Heap} (h : OwnL H z 26 3 (s.rdy.map Nm.av) H0) (xs : List AV) : Weak (.t (.g (skc s z) :: xs)) H (.t (.g s.av :: xs)) H0 :=
  h.weak fun F F' hF hi ho => Imp.t (Imps.cons (Imp.g (Imps.cons (Imp.refl hF _) id (Imps.cons (Imp.refl hF _) id (Imps.cons (Imp.refl hF _) id (Imps.cons (Imp.refl hF _) id (Imps.cons hi (fun _ => rfl) Imps.nil)))))) (fun h => by cases h) (Imps.refl hF xs))
theorem New_lf (sub att : Int) (rdy : List Nm) (hr : rdy.length ≤ 1000000) {x : AV} {M : Heap} (hx : Lent M x (.l 3 (rdy.map Nm.av))) :
    ACall Try.prog 40 [.c (.int .i64 sub), .c (.int .i64 att), x] M fun r H' => r = .t [.g (Sk.av (newR sub att rdy).1), .c (.int .i64 (newR sub att rdy).2)] ∧ H' = M :=
  ACall.weak ((New_l sub att rdy hr hx).mono fun r H' ⟨z, e, ho⟩ => ⟨_, M, e ▸ skc_weak ho _, rfl, rfl⟩)
theorem sWrite_p (s : Sk) (hl : s.rdy.length ≤ maxLen) (r : Rec) : Pure Try.prog 21 [.g (Sk.av s), .g (Rec.av r)] (.t [.g (Sk.av (writeSk s r).1), .l 7 ((writeSk s r).2.1.map Act.av), .c (.int .i64 (writeSk s r).2.2)]) := fun H =>
  ACall.weak ((sWrite_o s hl r H).mono fun z H' ⟨y, e, ho⟩ => ⟨_, H, e ▸ ho.weak (fun F F' hF hi _ => Imp.t (Imps.cons (Imp.refl hF _) id (Imps.cons hi (fun _ => rfl) (Imps.refl hF _)))), rfl, rfl⟩)
theorem sBarrier_p (s : Sk) (hl : s.rdy.length ≤ maxLen) : Pure Try.prog 33 [.g (Sk.av s)] (.t [.g (Sk.av (barSk s).1), .l 7 ((barSk s).2.1.map Act.av), .l 3 ((barSk s).2.2.1.map Nm.av), .c (.int .i64 (barSk s).2.2.2)]) := fun H =>
  ACall.weak ((sBarrier_o s hl H).mono fun z H' ⟨y, e, ho⟩ => ⟨_, H, e ▸ ho.weak (fun F F' hF hi _ => Imp.t (Imps.cons (Imp.refl hF _) id (Imps.cons hi (fun _ => rfl) (Imps.refl hF _)))), rfl, rfl⟩)
def wV : Nm := ⟨1, 1, 1⟩
def wQ : Rec := ⟨0, 3, 0⟩
def wS0 : Sk := ⟨1, 1, 0, false, []⟩
def wS1 : Sk := ⟨1, 1, 1, true, []⟩
def wS2 : Sk := ⟨1, 1, 1, false, [wV]⟩
def wA : List Act := [⟨1, wV, zRec⟩, ⟨2, wV, wQ⟩]
def wB : List Act := [⟨3, wV, zRec⟩]
def wG1 : Lg := ⟨[⟨wV, 1, []⟩], [], []⟩
def wG2 : Lg := ⟨[⟨wV, 1, [wQ]⟩], [], []⟩
def wG3 : Lg := ⟨[⟨wV, 2, [wQ]⟩], [], []⟩
theorem ws1 : newR 1 1 [] = (wS0, 0) := by decide
theorem ws2 : writeSk wS0 wQ = (wS1, wA, 0) := by decide
theorem ws3 : barSk wS1 = (wS2, wB, [wV], 0) := by decide
theorem wd1 : actR zeroL ⟨1, wV, zRec⟩ = (wG1, 0) := by decide
theorem wd2 : actR wG1 ⟨2, wV, wQ⟩ = (wG2, 0) := by decide
theorem wd3 : actR wG2 ⟨3, wV, zRec⟩ = (wG3, 0) := by decide
theorem wAB : wA ++ wB = [⟨1, wV, zRec⟩, ⟨2, wV, wQ⟩, ⟨3, wV, zRec⟩] := rfl
theorem fits_of17 {l : Lg} (h : lgOk l = true) : l.fits := by
  obtain ⟨h1, h2, h3, -, h5⟩ := lgOk_bd h
  exact ⟨⟨by omega, by omega, by omega⟩, fun t ht => by have := h5 t ht; omega⟩
theorem wd_ok : DoOk zeroL (wA ++ wB) := by
  intro k x hx
  rw [wAB] at hx ⊢
  match k with
  | 0 => cases hx; exact ⟨fits_of17 (by decide), .inl rfl, fun _ => rfl, by show (actR zeroL _).2 = 0; rw [wd1]⟩
  | 1 => cases hx; exact ⟨by show (actR zeroL _).1.fits; rw [wd1]; exact fits_of17 (by decide), .inr (.inl rfl), fun h => absurd rfl h, by show (actR (actR zeroL _).1 _).2 = 0; rw [wd1, wd2]⟩
  | 2 => cases hx; exact ⟨by show (actR (actR zeroL _).1 _).1.fits; rw [wd1, wd2]; exact fits_of17 (by decide), .inr (.inr rfl), fun _ => rfl, by show (actR (actR (actR zeroL _).1 _).1 _).2 = 0; rw [wd1, wd2, wd3]⟩
  | k + 3 => cases hx
theorem wd_all : doC zeroL (wA ++ wB) = wG3 := by
  show (actR (actR (actR zeroL ⟨1, wV, zRec⟩).1 ⟨2, wV, wQ⟩).1 ⟨3, wV, zRec⟩).1 = wG3
  rw [wd1, wd2, wd3]
theorem wakes17_p : Pure Try.prog 19 [] (.c (.bool true)) := by
  intro H
  have c1 := fun M => New_lf 1 1 [] (by decide) (M := M) (x := .c (.slice none 0 0)) (OwnL.nil M 0 3).lent
  have c2 := sWrite_o wS0 (by decide) wQ
  have c3 := sBarrier_p wS1 (by decide)
  have c4 := Do_z (wA ++ wB) (by decide) wd_ok
  rw [wd_all] at c4
  rw [ws1] at c1
  rw [ws2] at c2
  rw [ws3] at c3
  obtain ⟨A, hA⟩ : ∃ A, A = wA.map Act.av := ⟨_, rfl⟩
  obtain ⟨B, hB⟩ : ∃ B, B = wB.map Act.av := ⟨_, rfl⟩
  have hAl : A.length = 2 := by rw [hA]; rfl
  have hBl : B.length = 1 := by rw [hB]; rfl
  rw [List.map_append, ← hA, ← hB] at c4
  simp only at c1 c2 c3
  rw [← hA] at c2
  rw [← hB] at c3
  rw [show (wA ++ wB).length = 3 from rfl] at c4
  clear hA hB
  simp only [Sk.av, wS0, wS1, wS2, wQ, Rec.av, wV, Lg.av, wG3, List.map_cons, List.map_nil, Nm.av] at c1 c2 c3 c4
  replace c1 := Lib.hid c1
  replace c2 := Lib.hid c2
  replace c3 := Lib.hid c3
  replace c4 := Lib.hid c4
  have hE := tE38
  have hS := tS61
  have hBt := tB61
  have hZ := tZ61
  refine ACall_of' Try.func19 rfl (Ent_of Try.func19 (by kernel_rfl) rfl) (by simp [Try.ntmps19]) ?_; simp only [Try.ntmps19, Try.results19]
  repeat' (first
    | refine AW_seq_kn fun K hK => ?_
    | refine AW_block ?_
    | (refine does_call rfl rfl ?_; simp only [push_cast, seval, *]; refine ACall.monoP (unhid c1 _) ?_; (try simp only [push_cast, seval, *]))
    | ((first
      | refine AW_region E0 ?_ | refine AW_ret ?_ | refine AW_exit ?_ | refine AW_skip ?_ | unfold retQ); try simp only [push_cast, seval, *])
    | ((first | (apply AW_cond; (case hc => (simp only [push_cast, seval]; rfl))) | (apply ER_guard; (case hb => (simp only [push_cast, seval]; rfl)))); all_goals ((intro hc; first | (exfalso; simp only [push_cast, seval, *] at hc; done) | (exact absurd hc (by decide)) | ((try first | rw [Bool.not_true] at hc | rw [Bool.not_false] at hc); first | (with_reducible replace hc := tTT hc); clear hc | (with_reducible replace hc := tFF hc); clear hc | (have hp := hc; try simp only [decide_eq_true_eq, decide_eq_false_iff_not, bA, bB, bC, bD, bE, bF, bG, bH] at hp))) <;> try simp only [push_cast, seval, *]))
    | (refine Kn.go hK ?_; clear hK K)
    | refine Kn.go (by assumption) ?_
    | (intro n hn; (try simp only [upd_none2, join_none_iff, ite_none, ne_eq] at hn); (try simp only [push_cast, seval, *]))
    | (intro hc)
    | (apply ER_blk; (case hp => rfl); (case hb => (simp only [push_cast, seval]; rfl)); (case hd => (simp only [push_cast, seval]; done)); (case h => (intro hc; simp only [push_cast, seval, *]; rfl)); simp only [push_cast, seval, *])
    | fail)
  generalize n = n1 at *
  refine does_call rfl rfl ?_
  simp only [push_cast, seval, *]
  refine ACall.mono (unhid c2 _) ?_
  rintro _ Hz ⟨y, rfl, hy⟩
  obtain ⟨m, cap, rfl⟩ : ∃ m cap, y = .s m 7 0 2 cap := by
    rcases hy with ⟨-, h, -⟩ | ⟨m, cap, h, -, -⟩
    · rw [h] at hAl; cases hAl
    · rw [hAl] at h; exact ⟨m, cap, h⟩
  have k1 := hy.get (upd_same _ _ _)
  replace hy := Lib.hid (hy.turn (upd_same _ _ _) (.r 34 5 1 [[.c (.int .i64 1), .c (.int .i64 1), .c (.int .i64 1), .c (.bool false), .l 3 [[.c (.int .i64 1), .c (.int .i64 1), .c (.int .i64 1)]]]]))
  clear c1 c2
  (try simp only [push_cast, seval, *])
  repeat' (first
    | refine AW_seq_kn fun K hK => ?_
    | refine AW_block ?_
    | (refine does_call rfl rfl ?_; simp only [push_cast, seval, *]; refine ACall.monoP (unhid c3 _) ?_; (try simp only [push_cast, seval, *]))
    | ((first
      | refine AW_region E0 ?_ | refine AW_ret ?_ | refine AW_exit ?_ | refine AW_skip ?_ | unfold retQ); try simp only [push_cast, seval, *])
    | ((first | (apply AW_cond; (case hc => (simp only [push_cast, seval]; rfl))) | (apply ER_guard; (case hb => (simp only [push_cast, seval]; rfl)))); all_goals ((intro hc; first | (exfalso; simp only [push_cast, seval, *] at hc; done) | (exact absurd hc (by decide)) | ((try first | rw [Bool.not_true] at hc | rw [Bool.not_false] at hc); first | (with_reducible replace hc := tTT hc); clear hc | (with_reducible replace hc := tFF hc); clear hc | (have hp := hc; try simp only [decide_eq_true_eq, decide_eq_false_iff_not, bA, bB, bC, bD, bE, bF, bG, bH] at hp))) <;> try simp only [push_cast, seval, *]))
    | (refine Kn.go hK ?_; clear hK K)
    | refine Kn.go (by assumption) ?_
    | (intro n hn; (try simp only [upd_none2, join_none_iff, ite_none, ne_eq] at hn); (try simp only [push_cast, seval, *]))
    | (intro hc)
    | (apply ER_blk; (case hp => rfl); (case hb => (simp only [push_cast, seval]; rfl)); (case hd => (simp only [push_cast, seval]; done)); (case h => (intro hc; simp only [push_cast, seval, *]; rfl)); simp only [push_cast, seval, *])
    | fail)
  refine Does.frozen (ty := 61) (does_appL (news := B) rfl rfl (by simp only [push_cast, seval, *]) (unhid hy) hE hS hBt hZ rfl (by decide) ?_ ?_ (fun _ _ h' => h')) ?_
  · rw [hAl, hBl]; decide
  · rw [hAl, hBl]; decide
  (try simp only [push_cast, seval, *])
  repeat' (first
    | refine AW_seq_kn fun K hK => ?_
    | refine AW_block ?_
    | (refine does_call rfl rfl ?_; simp only [push_cast, seval, *]; refine ACall.monoP (unhid c4 _) ?_; (try simp only [push_cast, seval, *]))
    | ((first
      | refine AW_region E0 ?_ | refine AW_ret ?_ | refine AW_exit ?_ | refine AW_skip ?_ | unfold retQ); try simp only [push_cast, seval, *])
    | ((first | (apply AW_cond; (case hc => (simp only [push_cast, seval]; rfl))) | (apply ER_guard; (case hb => (simp only [push_cast, seval]; rfl)))); all_goals ((intro hc; first | (exfalso; simp only [push_cast, seval, *] at hc; done) | (exact absurd hc (by decide)) | ((try first | rw [Bool.not_true] at hc | rw [Bool.not_false] at hc); first | (with_reducible replace hc := tTT hc); clear hc | (with_reducible replace hc := tFF hc); clear hc | (have hp := hc; try simp only [decide_eq_true_eq, decide_eq_false_iff_not, bA, bB, bC, bD, bE, bF, bG, bH] at hp))) <;> try simp only [push_cast, seval, *]))
    | (refine Kn.go hK ?_; clear hK K)
    | refine Kn.go (by assumption) ?_
    | (intro n hn; (try simp only [upd_none2, join_none_iff, ite_none, ne_eq] at hn); (try simp only [push_cast, seval, *]))
    | (intro hc)
    | (apply ER_blk; (case hp => rfl); (case hb => (simp only [push_cast, seval]; rfl)); (case hd => (simp only [push_cast, seval]; done)); (case h => (intro hc; simp only [push_cast, seval, *]; rfl)); simp only [push_cast, seval, *])
    | fail)
  exact ⟨_, _, Weak.less (by (repeat' (first | exact Heap.le_refl _ | refine hle_upd2 ?_ _ _ | (refine Heap.le_new ?_ ?_; rotate_left 1; focus (first | assumption | (simp only [upd_none2, upd_get, ne_eq, push_cast, seval, *]; done) | (simp [upd_get, *]; done)))))), rfl, rfl⟩
end Go.Proofs.Ytdeckjoeggmagaa
