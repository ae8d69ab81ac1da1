/- Commit. -/
import Derived.Test.YtdeckjoeggmagaaH
import Derived.Test.YtdeckjoeggmagaaM
namespace Go.Proofs.Ytdeckjoeggmagaa
open Go.RowKit
open Nat renaming reduceEqDiff → nA, reduceLT → nB, reduceLeDiff → nC, reduceAdd → nD, reduceMul → nE, reduceSub → nF, reduceBEq → nG
open Int renaming reduceToNat → iA, reduceLT → iB, reduceLE → iC, reduceEq → iD
open Bool renaming and_eq_true → bA, or_eq_true → bB, or_eq_false_iff → bC, and_eq_false_iff → bD, not_eq_true' → bE, not_eq_false' → bF, not_true → bG, not_false → bH
set_option linter.all false
set_option maxHeartbeats 4000000
attribute [local irreducible] AW Does ACall tE tS tB tZ
set_option maxRecDepth 5000

def commitR (l : Lg) (names : List Nm) : Lg × Int := wRes l names (commitE l names) (commitL l names)
theorem Commit_o (l : Lg) (hf : l.fits) (names : List Nm) (hns : names.length ≤ maxLen) (H : Heap) :
    ACall Try.prog 35 [.g (Lg.av l), .l 3 (names.map Nm.av)] H fun r H' => ∃ y1 y2 y3, r = .t [gl y1 y2 y3, .c (.int .i64 (commitR l names).2)] ∧ OwnG y1 y2 y3 (commitR l names).1 H' H := by
  have hw : ∀ (M : Heap) (n2 : Nat), M n2 = some (.r 22 1 1 [[.l 3 (names.map Nm.av)]]) →
      ACall Try.prog 75 [.g (Lg.av l), .f (.func 76) [] [.p n2 1 0 0], .l 3 (names.map Nm.av)] M fun r H' => ∃ y1 y2 y3, r = .t [gl y1 y2 y3, .c (.int .i64 (commitR l names).2)] ∧ OwnG y1 y2 y3 (commitR l names).1 H' M := fun M n2 h2 =>
    with_lent (caps' := [.q [.l 3 (names.map Nm.av)] 0]) (names := names.map Nm.av) (R := commitR l names) (show Lent _ _ _ ∧ True from ⟨Lent.p h2 rfl, trivial⟩) (Lent.refl _ _)
      (with_all l hf names hns 76 [.q [.l 3 (names.map Nm.av)] 0] emp (commitE l names) (commitL l names) (fun G' => G' = emp) (fun _ => rfl) (fun hok _ x1 x2 x3 A nb hnb ho => commit1_a l hok names hns x1 x2 x3 A nb emp hnb ho))
  generalize commitR l names = R at *
  obtain ⟨R1, R2⟩ := R
  obtain ⟨a, b, c⟩ := l
  simp only [Lg.av] at hw ⊢
  clear hf
  replace hw := Lib.hid hw
  refine ACall_of' Try.func35 rfl (Ent_of Try.func35 (by kernel_rfl) rfl) (by simp [Try.ntmps35]) ?_; simp only [Try.ntmps35, Try.results35]
  repeat' (first
    | refine AW_seq_kn fun K hK => ?_
    | refine AW_block ?_
    | ((first
      | refine AW_region E0 ?_ | refine AW_ret ?_ | refine AW_exit ?_ | refine AW_skip ?_ | unfold retQ); try simp only [push_cast, seval, *])
    | (apply AW_cond; (case hc => (simp only [push_cast, seval]; rfl)); all_goals (intro hc; first | (exfalso; simp only [push_cast, seval, *] at hc; done) | (exact absurd hc (by decide)) | ((try first | rw [Bool.not_true] at hc | rw [Bool.not_false] at hc); first | (with_reducible replace hc := tTT hc); clear hc | (with_reducible replace hc := tFF hc); clear hc | (have hp := hc; try simp only [decide_eq_true_eq, decide_eq_false_iff_not, bA, bB, bC, bD, bE, bF, bG, bH] at hp))))
    | (refine Kn.go hK ?_; clear hK K)
    | refine Kn.go (by assumption) ?_
    | (intro n hn; (try simp only [upd_none2, join_none_iff, ite_none, ne_eq] at hn); (try simp only [push_cast, seval, *]))
    | (intro hc)
    | fail)
  rename_i n1 h1 n2 h2
  generalize n = n3 at *
  obtain ⟨Gs, hGs⟩ : ∃ Gs : Heap, Gs = upd (upd (upd H n1 (.r 47 3 1 [[.l 5 (a.map Tx.av), .l 3 (b.map Nm.av), .l 3 (c.map Rec.av)]])) n2 (.r 22 1 1 [[.l 3 (names.map Nm.av)]])) n3 (.r 47 3 1 [zL]) := ⟨_, rfl⟩
  have g2 : Gs n2 = some (.r 22 1 1 [[.l 3 (names.map Nm.av)]]) := by rw [hGs]; simp only [push_cast, seval, upd_get, *]
  have g3 : Gs n3 = some (.r 47 3 1 [zL]) := by rw [hGs]; exact upd_same _ _ _
  have gn3 : H n3 = none := hn.2.2
  have hle : Heap.le H Gs := by rw [hGs]; (repeat' (first | exact Heap.le_refl _ | refine hle_upd2 ?_ _ _ | (refine Heap.le_new ?_ ?_; rotate_left 1; focus (first | assumption | (simp only [upd_none2, upd_get, ne_eq, push_cast, seval, *]; done) | (simp [upd_get, *]; done)))))
  rw [← hGs]
  clear hGs h1 h2 hn
  refine does_call rfl rfl ?_
  simp only [push_cast, seval, *]
  refine ACall.mono (unhid hw Gs n2 g2) ?_
  rintro _ H' ⟨y1, y2, y3, rfl, ho⟩
  have k3 := (OwnG_loc y1 y2 y3 R1).get ho g3
  obtain ⟨H2, l1, l2, l3⟩ := (OwnG_loc y1 y2 y3 R1).cutx ho (K := H) hle
  have l4 := l3 n3 (by rw [g3]; simp) gn3
  obtain ⟨⟨u1, u2, u3⟩, v1, v2, v3⟩ := OwnG_cs l2
  clear hw ho g2 g3 gn3 hle l3
  replace l1 := Lib.hid l1
  replace l2 := Lib.hid l2
  replace l4 := Lib.hid l4
  (try simp only [push_cast, seval, *])
  repeat' (first
    | refine AW_seq_kn fun K hK => ?_
    | refine AW_block ?_
    | ((first
      | refine AW_region E0 ?_ | refine AW_ret ?_ | refine AW_exit ?_ | refine AW_skip ?_ | unfold retQ); try simp only [push_cast, seval, *])
    | (apply AW_cond; (case hc => (simp only [push_cast, seval]; rfl)); all_goals (intro hc; first | (exfalso; simp only [push_cast, seval, *] at hc; done) | (exact absurd hc (by decide)) | ((try first | rw [Bool.not_true] at hc | rw [Bool.not_false] at hc); first | (with_reducible replace hc := tTT hc); clear hc | (with_reducible replace hc := tFF hc); clear hc | (have hp := hc; try simp only [decide_eq_true_eq, decide_eq_false_iff_not, bA, bB, bC, bD, bE, bF, bG, bH] at hp))))
    | (refine Kn.go hK ?_; clear hK K)
    | refine Kn.go (by assumption) ?_
    | (intro n hn; (try simp only [upd_none2, join_none_iff, ite_none, ne_eq] at hn); (try simp only [push_cast, seval, *]))
    | (intro hc)
    | fail)
  exact ⟨_, H2, Weak.less (by repeat' (first | exact unhid l1 | refine le_skip ?_ (unhid l4) | refine le_skip ?_ (le_no (unhid l1) hn))), y1, y2, y3, rfl, unhid l2⟩
end Go.Proofs.Ytdeckjoeggmagaa
