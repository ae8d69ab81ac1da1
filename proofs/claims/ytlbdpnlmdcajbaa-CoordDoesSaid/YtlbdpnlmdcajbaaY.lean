/- The layer does something. -/
import Derived.Test.YtlbdpnlmdcajbaaX
namespace Go.Proofs.Ytlbdpnlmdcajbaa
open Go.RowKit
open Nat renaming reduceEqDiff → nA, reduceLT → nB, reduceLeDiff → nC, reduceAdd → nD, reduceMul → nE, reduceSub → nF, reduceBEq → nG
open Int renaming reduceToNat → iA, reduceLT → iB, reduceLE → iC, reduceEq → iD
open Bool renaming and_eq_true → bA, or_eq_true → bB, or_eq_false_iff → bC, and_eq_false_iff → bD, not_eq_true' → bE, not_eq_false' → bF, not_true → bG, not_false → bH
set_option linter.all false
set_option maxHeartbeats 4000000
attribute [local irreducible] AW Does ACall tE tS tB tZ
set_option maxRecDepth 5000

theorem Cd.cl_av (c : Cd) : c.cl (.l 4 (c.pend.map Pd.av)) = c.av := rfl
theorem Imp_cl {F F' : Mem} (hF : F.le F') (c : Cd) {y y' : AV} (h : Imp F F' y y') (ho : y'.one = true) : Imp F F' (.g (c.cl y)) (.g (c.cl y')) :=
  Imp.g (Imps.cons (Imp.refl hF _) id (Imps.cons (Imp.refl hF _) id (Imps.cons (Imp.refl hF _) id (Imps.cons (Imp.refl hF _) id (Imps.cons (Imp.refl hF _) id (Imps.cons h (fun _ => ho) Imps.nil))))))
theorem OwnP.weak3 {c : Cd} {y a b : AV} {H H0 : Heap} (h : OwnP y c.pend H H0) : Weak (.t [.g (c.cl y), a, b]) H (.t [.g c.av, a, b]) H0 :=
  (OwnP_wp h).weak fun F F' hF hi => Imp.t (Imps.cons (Imp_cl hF c hi rfl) (fun h => by cases h) (Imps.cons (Imp.refl hF _) id (Imps.cons (Imp.refl hF _) id Imps.nil)))
theorem Trigger_p (c : Cd) (hl : c.pend.length ≤ maxLen) (hfit : c.fits) (now : Int) (save : Bool) : Pure Try.prog 31 [.g (Cd.av c), .c (.int .i64 now), .c (.bool save)] (.t [.g (trigR c now save).1.av, .c (.int .u64 (trigR c now save).2.1), .c (.int .i64 (trigR c now save).2.2)]) := fun H =>
  ACall.weak ((Trigger_o c hl hfit now save H).mono fun r H' ⟨y, e, ho⟩ => ⟨_, H, e ▸ ho.weak3, rfl, rfl⟩)
theorem Cd.cl_flat (c : Cd) {y : AV} (h : Flat y) : Flat (.g (c.cl y)) := Flat.g (by intro z hz; simp only [Cd.cl, List.mem_cons, List.not_mem_nil, or_false] at hz; rcases hz with rfl | rfl | rfl | rfl | rfl | rfl <;> first | exact Flat.c _ | exact h)
/-- with bytes that the caller owns -/
theorem Acked_l (c : Cd) (hl : c.pend.length ≤ maxLen) (hfit : c.fits) (n at_ : Int) (a : Ak) (hab : a.bytes.length ≤ maxLen) (z : AV) (H : Heap) (hz : Lent H z (.l 1 (a.bytes.map by1))) :
    ACall Try.prog 32 [.g (Cd.av c), .c (.int .u64 n), .c (.int .i64 at_), .g [.c (.int .i64 a.task), z]] H fun r H' => ∃ y, r = .t [.g ((ackR c n at_ a).1.cl y), .c (.bool (ackR c n at_ a).2.1), .c (.int .i64 (ackR c n at_ a).2.2)] ∧ OwnP y (ackR c n at_ a).1.pend H' H := by
  have hg : Lent H (.g [.c (.int .i64 a.task), z]) (.g (Ak.av a)) := Lent.g (xs := [.c (.int .i64 a.task), z]) (ys := [.c (.int .i64 a.task), .l 1 (a.bytes.map by1)]) ⟨Lent.refl _ _, hz, trivial⟩ (by intro w hw; simp only [List.mem_cons, List.not_mem_nil, or_false] at hw; rcases hw with rfl | rfl <;> rfl)
  have h := ACall.lendG (H := H) (args' := [.g (Cd.av c), .c (.int .u64 n), .c (.int .i64 at_), .g (Ak.av a)]) (args := [.g (Cd.av c), .c (.int .u64 n), .c (.int .i64 at_), .g [.c (.int .i64 a.task), z]]) (fun r G ⟨y, e, ho⟩ => ⟨by
      rw [e]
      exact Flat.t (by intro w hw; simp only [List.mem_cons, List.not_mem_nil, or_false] at hw; rcases hw with rfl | rfl | rfl <;> first | exact Flat.c _ | exact Cd.cl_flat _ (OwnP_flat ho).1), (OwnP_flat ho).2 FlatH.none⟩)
    (show Lent H _ _ ∧ Lent H _ _ ∧ Lent H _ _ ∧ Lent H _ _ ∧ True from ⟨Lent.refl _ _, Lent.refl _ _, Lent.refl _ _, hg, trivial⟩)
    (Acked_o c hl hfit n at_ a hab emp)
  refine h.mono ?_
  rintro r H' ⟨G, rfl, hap, y, e, ho⟩
  refine ⟨y, e, ?_⟩
  have := (OwnP_loc y _).frame ho hap.symm
  rwa [join_comm hap.symm, join_emp] at this
theorem Acked_lp (c : Cd) (hl : c.pend.length ≤ maxLen) (hfit : c.fits) (n at_ : Int) (a : Ak) (hab : a.bytes.length ≤ maxLen) (z : AV) (H : Heap) (hz : Lent H z (.l 1 (a.bytes.map by1))) :
    ACall Try.prog 32 [.g (Cd.av c), .c (.int .u64 n), .c (.int .i64 at_), .g [.c (.int .i64 a.task), z]] H fun r H' => r = .t [.g (ackR c n at_ a).1.av, .c (.bool (ackR c n at_ a).2.1), .c (.int .i64 (ackR c n at_ a).2.2)] ∧ H' = H :=
  ACall.weak ((Acked_l c hl hfit n at_ a hab z H hz).mono fun r H' ⟨y, e, ho⟩ => ⟨_, H, e ▸ ho.weak3, rfl, rfl⟩)
theorem OwnP.weak4 {c : Cd} {y a g b : AV} {l : List Ak} {rs : List (List AV)} {H H1 H2 H0 : Heap} (h : OwnP y c.pend H H1) (hg : OwnL H1 g 25 1 rs H2) (ha : OwnA a l H2 H0) : Weak (.t [.g (c.cl y), a, g, b]) H (.t [.g c.av, .l 2 (l.map Ak.av), .l 1 rs, b]) H0 :=
  (((OwnP_wp h).seq ((OwnL.wp hg).seq (OwnA_wp ha)))).weak fun F F' hF ⟨F1, f1, f2, hi, F2, f3, f4, hj, hk⟩ =>
    Imp.t (Imps.cons (Imp_cl hF c (hi.up f2) rfl) (fun h => by cases h) (Imps.cons ((hk.down f3).down f1) (fun _ => rfl) (Imps.cons ((hj.1.up f4).down f1) (fun _ => rfl) (Imps.cons (Imp.refl hF _) id Imps.nil))))
theorem Complete_p (c : Cd) (hl : c.pend.length ≤ maxLen) (hfit : c.fits) (nm : Int) : Pure Try.prog 33 [.g (Cd.av c), .c (.int .u64 nm)] (.t [.g (compR c nm).1.av, .l 2 ((compR c nm).2.1.map Ak.av), .l 1 ((compR c nm).2.2.1.map iu), .c (.int .i64 (compR c nm).2.2.2)]) := fun H =>
  ACall.weak ((Complete_o c hl hfit nm H).mono fun r H' ⟨y, ya, g, H1, H2, e, ho, hg, ha⟩ => ⟨_, H, e ▸ ho.weak4 hg ha, rfl, rfl⟩)
end Go.Proofs.Ytlbdpnlmdcajbaa
