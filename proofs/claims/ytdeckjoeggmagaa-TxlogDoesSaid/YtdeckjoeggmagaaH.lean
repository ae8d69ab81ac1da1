/- Open. -/
import Derived.Test.YtdeckjoeggmagaaG
import Derived.Test.YtdeckjoeggmagaaLN
namespace Go.Proofs.Ytdeckjoeggmagaa
open Go.RowKit
open Nat renaming reduceEqDiff → nA, reduceLT → nB, reduceLeDiff → nC, reduceAdd → nD, reduceMul → nE, reduceSub → nF, reduceBEq → nG
open Int renaming reduceToNat → iA, reduceLT → iB, reduceLE → iC, reduceEq → iD
open Bool renaming and_eq_true → bA, or_eq_true → bB, or_eq_false_iff → bC, and_eq_false_iff → bD, not_eq_true' → bE, not_eq_false' → bF, not_true → bG, not_false → bH
set_option linter.all false
set_option maxHeartbeats 4000000
attribute [local irreducible] AW Does ACall tE tS tB tZ
set_option maxRecDepth 5000

theorem gl_t_flat {x1 x2 x3 : AV} {l : Lg} {H H0 : Heap} (h : OwnG x1 x2 x3 l H H0) (e : Int) : Flat (.t [gl x1 x2 x3, .c (.int .i64 e)]) :=
  Flat.t (by intro w hw; simp only [List.mem_cons, List.not_mem_nil, or_false] at hw; rcases hw with rfl | rfl <;> first | exact (OwnG_flat h).1 | exact Flat.c _)
theorem OwnG_on {x1 x2 x3 : AV} {l : Lg} {G M : Heap} (h : OwnG x1 x2 x3 l G emp) (ha : Apart M G) : OwnG x1 x2 x3 l (join M G) M := by
  have := (OwnG_loc x1 x2 x3 l).frame h ha.symm
  rwa [join_comm ha.symm, show join emp M = M from funext fun q => by simp [join]] at this
theorem with_lent {l : Lg} {gf : FuncId} {caps caps' : List AV} {names : List (List AV)} {x : AV} {R : Lg × Int} {M : Heap} (hl : Lents M caps caps') (hx : Lent M x (.l 3 names))
    (h : ACall Try.prog 75 [.g (Lg.av l), .f (.func gf) [] caps', .l 3 names] emp fun r H' => ∃ y1 y2 y3 G', r = .t [gl y1 y2 y3, .c (.int .i64 R.2)] ∧ OwnG y1 y2 y3 R.1 H' G' ∧ G' = emp) :
    ACall Try.prog 75 [.g (Lg.av l), .f (.func gf) [] caps, x] M fun r H' => ∃ y1 y2 y3, r = .t [gl y1 y2 y3, .c (.int .i64 R.2)] ∧ OwnG y1 y2 y3 R.1 H' M := by
  have h2 := ACall.lendG (H := M) (args' := [.g (Lg.av l), .f (.func gf) [] caps', .l 3 names]) (args := [.g (Lg.av l), .f (.func gf) [] caps, x]) (fun r G ⟨y1, y2, y3, G', e, ho, e2⟩ => ⟨by rw [e]; exact gl_t_flat ho _, by rw [e2] at ho; exact (OwnG_flat ho).2 FlatH.none⟩)
    (show Lent M _ _ ∧ Lent M _ _ ∧ Lent M _ _ ∧ True from ⟨Lent.refl _ _, Lent.f (show Lents M [] [] from trivial) hl, hx, trivial⟩) h
  refine h2.mono ?_
  rintro r H' ⟨G, rfl, hap, y1, y2, y3, G', e, ho, rfl⟩
  exact ⟨y1, y2, y3, e, OwnG_on ho hap⟩
def openR (l : Lg) (v : Nm) : Lg × Int := wRes l [v] (openE l v) (openL l v)
theorem Open_o (l : Lg) (hf : l.fits) (v : Nm) (H : Heap) :
    ACall Try.prog 48 [.g (Lg.av l), .g (Nm.av v)] H fun r H' => ∃ y1 y2 y3, r = .t [gl y1 y2 y3, .c (.int .i64 (openR l v).2)] ∧ OwnG y1 y2 y3 (openR l v).1 H' H := by
  have hw : ∀ (M : Heap) (n2 n4 : Nat), M n2 = some (.r 26 3 1 [Nm.av v]) → M n4 = some (.r 26 3 1 [Nm.av v]) →
      ACall Try.prog 75 [.g (Lg.av l), .f (.func 90) [] [.p n2 3 0 0], .s n4 3 0 1 1] M fun r H' => ∃ y1 y2 y3, r = .t [gl y1 y2 y3, .c (.int .i64 (openR l v).2)] ∧ OwnG y1 y2 y3 (openR l v).1 H' M := fun M n2 n4 h2 h4 =>
    with_lent (caps' := [.q (Nm.av v) 0]) (names := [v].map Nm.av) (R := openR l v) (show Lent _ _ _ ∧ True from ⟨Lent.p h2 rfl, trivial⟩) (Lent.s (rows := [Nm.av v]) h4)
      (with_all l hf [v] (by simp [maxLen]) 90 [.q (Nm.av v) 0] emp (openE l v) (openL l v) (fun G' => G' = emp) (fun _ => rfl) (fun hok _ x1 x2 x3 A nb hnb ho => open1_a l hok v x1 x2 x3 A nb emp hnb ho))
  generalize openR l v = R at *
  obtain ⟨R1, R2⟩ := R
  obtain ⟨a, b, c⟩ := l
  obtain ⟨vs, va, vn⟩ := v
  simp only [Lg.av, Nm.av] at hw ⊢
  clear hf
  replace hw := Lib.hid hw
  refine ACall_of' Try.func48 rfl (Ent_of Try.func48 (by kernel_rfl) rfl) (by simp [Try.ntmps48]) ?_; simp only [Try.ntmps48, Try.results48]
  repeat' (first
    | refine AW_seq_kn fun K hK => ?_
    | refine AW_block ?_
    | ((first
      | refine AW_region E0 ?_ | refine AW_ret ?_ | refine AW_exit ?_ | refine AW_skip ?_ | unfold retQ); try simp only [push_cast, seval, *])
    | (apply AW_cond; (case hc => (simp only [push_cast, seval]; rfl)); all_goals (intro hc; first | (exfalso; simp only [push_cast, seval, *] at hc; done) | (exact absurd hc (by decide)) | ((try first | rw [Bool.not_true] at hc | rw [Bool.not_false] at hc); first | (with_reducible replace hc := tTT hc); clear hc | (with_reducible replace hc := tFF hc); clear hc | (have hp := hc; try simp only [decide_eq_true_eq, decide_eq_false_iff_not, bA, bB, bC, bD, bE, bF, bG, bH] at hp))))
    | (refine Kn.go hK ?_; clear hK K)
    | refine Kn.go (by assumption) ?_
    | (intro n hn; (try simp only [upd_none2, join_none_iff, ite_none, ne_eq] at hn); (try simp only [push_cast, seval, *]))
    | (intro hc)
    | fail)
  rename_i n1 h1 n2 h2 n3 h3
  generalize n = n4 at *
  obtain ⟨Gs, hGs⟩ : ∃ Gs : Heap, Gs = upd (upd (upd (upd H n1 (.r 47 3 1 [[.l 5 (a.map Tx.av), .l 3 (b.map Nm.av), .l 3 (c.map Rec.av)]])) n2 (.r 26 3 1 [[.c (.int .i64 vs), .c (.int .i64 va), .c (.int .i64 vn)]])) n3 (.r 47 3 1 [zL])) n4 (.r 26 3 1 [[.c (.int .i64 vs), .c (.int .i64 va), .c (.int .i64 vn)]]) := ⟨_, rfl⟩
  have g2 : Gs n2 = some (.r 26 3 1 [[.c (.int .i64 vs), .c (.int .i64 va), .c (.int .i64 vn)]]) := by rw [hGs]; simp only [push_cast, seval, upd_get, *]
  have g3 : Gs n3 = some (.r 47 3 1 [zL]) := by rw [hGs]; simp only [push_cast, seval, upd_get, *]
  have g4 : Gs n4 = some (.r 26 3 1 [[.c (.int .i64 vs), .c (.int .i64 va), .c (.int .i64 vn)]]) := by rw [hGs]; exact upd_same _ _ _
  have gn3 : H n3 = none := h3.2.2
  have hle : Heap.le H Gs := by rw [hGs]; (repeat' (first | exact Heap.le_refl _ | refine hle_upd2 ?_ _ _ | (refine Heap.le_new ?_ ?_; rotate_left 1; focus (first | assumption | (simp only [upd_none2, upd_get, ne_eq, push_cast, seval, *]; done) | (simp [upd_get, *]; done)))))
  rw [← hGs]
  clear hGs h1 h2 h3 hn
  refine does_call rfl rfl ?_
  simp only [push_cast, seval, *]
  refine ACall.mono (unhid hw Gs n2 n4 g2 g4) ?_
  rintro _ H' ⟨y1, y2, y3, rfl, ho⟩
  have k3 := (OwnG_loc y1 y2 y3 R1).get ho g3
  obtain ⟨H2, l1, l2, l3⟩ := (OwnG_loc y1 y2 y3 R1).cutx ho (K := H) hle
  have l4 := l3 n3 (by rw [g3]; simp) gn3
  obtain ⟨⟨u1, u2, u3⟩, v1, v2, v3⟩ := OwnG_cs l2
  clear hw ho g2 g3 g4 gn3 hle l3
  replace l1 := Lib.hid l1
  replace l2 := Lib.hid l2
  replace l4 := Lib.hid l4
  (try simp only [push_cast, seval, *])
  repeat' (first
    | refine AW_seq_kn fun K hK => ?_
    | refine AW_block ?_
    | ((first
      | refine AW_region E0 ?_ | refine AW_ret ?_ | refine AW_exit ?_ | refine AW_skip ?_ | unfold retQ); try simp only [push_cast, seval, *])
    | (apply AW_cond; (case hc => (simp only [push_cast, seval]; rfl)); all_goals (intro hc; first | (exfalso; simp only [push_cast, seval, *] at hc; done) | (exact absurd hc (by decide)) | ((try first | rw [Bool.not_true] at hc | rw [Bool.not_false] at hc); first | (with_reducible replace hc := tTT hc); clear hc | (with_reducible replace hc := tFF hc); clear hc | (have hp := hc; try simp only [decide_eq_true_eq, decide_eq_false_iff_not, bA, bB, bC, bD, bE, bF, bG, bH] at hp))))
    | (refine Kn.go hK ?_; clear hK K)
    | refine Kn.go (by assumption) ?_
    | (intro n hn; (try simp only [upd_none2, join_none_iff, ite_none, ne_eq] at hn); (try simp only [push_cast, seval, *]))
    | (intro hc)
    | fail)
  exact ⟨_, H2, Weak.less (by repeat' (first | exact unhid l1 | refine le_skip ?_ (unhid l4) | refine le_skip ?_ (le_no (unhid l1) hn))), y1, y2, y3, rfl, unhid l2⟩
end Go.Proofs.Ytdeckjoeggmagaa
