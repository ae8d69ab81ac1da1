/- Decline; what has taken too long. -/
import Derived.Test.YtlbdpnlmdcajbaaR
namespace Go.Proofs.Ytlbdpnlmdcajbaa
open Go.RowKit
open Nat renaming reduceEqDiff → nA, reduceLT → nB, reduceLeDiff → nC, reduceAdd → nD, reduceMul → nE, reduceSub → nF, reduceBEq → nG
open Int renaming reduceToNat → iA, reduceLT → iB, reduceLE → iC, reduceEq → iD
open Bool renaming and_eq_true → bA, or_eq_true → bB, or_eq_false_iff → bC, and_eq_false_iff → bD, not_eq_true' → bE, not_eq_false' → bF, not_true → bG, not_false → bH
set_option linter.all false
set_option maxHeartbeats 4000000
attribute [local irreducible] AW Does ACall tE tS tB tZ
set_option maxRecDepth 5000

def decR (c : Cd) (n at_ : Int) : Cd × Int := wRes c (oursE c n at_) (decC c n)
theorem Decline_o (c : Cd) (hl : c.pend.length ≤ maxLen) (hfit : c.fits) (nm at_ : Int) (G : Heap) :
    ACall Try.prog 38 [.g (Cd.av c), .c (.int .u64 nm), .c (.int .i64 at_)] G fun r H' => ∃ y, r = .t [.g ((decR c nm at_).1.cl y), .c (.int .i64 (decR c nm at_).2)] ∧ OwnP y (decR c nm at_).1.pend H' G := by
  have hw : ∀ Gs n2 n3, Gs n2 = some (.r 25 1 1 [[.c (.int .u64 nm)]]) → Gs n3 = some (.r 3 1 1 [[.c (.int .i64 at_)]]) →
      ACall Try.prog 60 [.g (Cd.av c), .f (.func 72) [] [.p n2 1 0 0, .p n3 1 0 0]] Gs fun r H' => ∃ y G', r = .t [.g ((decR c nm at_).1.cl y), .c (.int .i64 (decR c nm at_).2)] ∧ OwnP y (decR c nm at_).1.pend H' G' ∧ G' = Gs := fun Gs n2 n3 g2 g3 =>
    with_all c hl hfit.2 72 [.p n2 1 0 0, .p n3 1 0 0] Gs (oursE c nm at_) (decC c nm) (fun G' => G' = Gs) (fun hok => rfl) (fun hok x A nb hnb ho => dec1_a c hok nm at_ x A nb Gs hnb n2 n3 g2 g3 ho)
  generalize decR c nm at_ = R at *
  obtain ⟨R1, R3⟩ := R
  obtain ⟨c0, c1, c2, c3, c4, l⟩ := c
  simp only [Cd.av, Cd.cl] at hw ⊢
  clear hl hfit
  replace hw := Lib.hid hw
  refine ACall_of' Try.func38 rfl (Ent_of Try.func38 (by kernel_rfl) rfl) (by simp [Try.ntmps38]) ?_; simp only [Try.ntmps38, Try.results38]
  repeat' (first
    | refine AW_seq_kn fun K hK => ?_
    | refine AW_block ?_
    | ((first
      | refine AW_region E0 ?_ | refine AW_ret ?_ | refine AW_exit ?_ | refine AW_skip ?_ | unfold retQ); try simp only [push_cast, seval, *])
    | (apply AW_cond; (case hc => (simp only [push_cast, seval]; rfl)); all_goals (intro hc; first | (exfalso; simp only [push_cast, seval, *] at hc; done) | (exact absurd hc (by decide)) | ((try first | rw [Bool.not_true] at hc | rw [Bool.not_false] at hc); first | (with_reducible replace hc := tTT hc); clear hc | (with_reducible replace hc := tFF hc); clear hc | (have hp := hc; try simp only [decide_eq_true_eq, decide_eq_false_iff_not, bA, bB, bC, bD, bE, bF, bG, bH] at hp))))
    | (refine Kn.go hK ?_; clear hK K)
    | refine Kn.go (by assumption) ?_
    | (intro n hn; (try simp only [upd_none2, join_none_iff, ite_none, ne_eq] at hn); (try simp only [push_cast, seval, *]))
    | (intro hc)
    | fail)
  rename_i n1 h1 n2 h2 n3 h3
  generalize n = n4 at *
  obtain ⟨Gs, hGs⟩ : ∃ Gs : Heap, Gs = upd (upd (upd (upd G n1 (.r 30 6 1 [[.c (.int .u64 c0), .c (.int .u64 c1), .c (.int .i64 c2), .c (.int .i64 c3), .c (.int .i64 c4), .l 4 (l.map Pd.av)]])) n2 (.r 25 1 1 [[.c (.int .u64 nm)]])) n3 (.r 3 1 1 [[.c (.int .i64 at_)]])) n4 (.r 30 6 1 [zrow]) := ⟨_, rfl⟩
  have g2 : Gs n2 = some (.r 25 1 1 [[.c (.int .u64 nm)]]) := by rw [hGs]; simp only [push_cast, seval, upd_get, *]
  have g3 : Gs n3 = some (.r 3 1 1 [[.c (.int .i64 at_)]]) := by rw [hGs]; simp only [push_cast, seval, upd_get, *]
  have g4 : Gs n4 = some (.r 30 6 1 [zrow]) := by rw [hGs]; exact upd_same _ _ _
  have gn4 : G n4 = none := hn.2.2.2
  have hle : Heap.le G Gs := by rw [hGs]; (repeat' (first | exact Heap.le_refl _ | refine hle_upd2 ?_ _ _ | (refine Heap.le_new ?_ ?_; rotate_left 1; focus (first | assumption | (simp only [upd_none2, upd_get, ne_eq, push_cast, seval, *]; done) | (simp [upd_get, *]; done)))))
  rw [← hGs]
  clear hGs h1 h2 h3 hn
  refine does_call rfl rfl ?_
  simp only [push_cast, seval, *]
  refine ACall.mono (unhid hw Gs n2 n3 g2 g3) ?_
  rintro _ H' ⟨y, _, rfl, ho, rfl⟩
  have k4 := (OwnP_loc y R1.pend).get ho g4
  obtain ⟨H2, l1, l2, l3⟩ := (OwnP_loc y R1.pend).cutx ho (K := G) hle
  have l4 := l3 n4 (by rw [g4]; simp) gn4
  have hycs := l2.cs
  have hyone := l2.one
  simp only [zrow] at k4
  have o4 := ne_old k4
  clear hw ho g2 g3 g4 gn4 hle l3
  replace l1 := Lib.hid l1
  replace l2 := Lib.hid l2
  replace l4 := Lib.hid l4
  (try simp only [push_cast, seval, *])
  repeat' (first
    | refine AW_seq_kn fun K hK => ?_
    | refine AW_block ?_
    | ((first
      | refine AW_region E0 ?_ | refine AW_ret ?_ | refine AW_exit ?_ | refine AW_skip ?_ | unfold retQ); try simp only [push_cast, seval, *])
    | (apply AW_cond; (case hc => (simp only [push_cast, seval]; rfl)); all_goals (intro hc; first | (exfalso; simp only [push_cast, seval, *] at hc; done) | (exact absurd hc (by decide)) | ((try first | rw [Bool.not_true] at hc | rw [Bool.not_false] at hc); first | (with_reducible replace hc := tTT hc); clear hc | (with_reducible replace hc := tFF hc); clear hc | (have hp := hc; try simp only [decide_eq_true_eq, decide_eq_false_iff_not, bA, bB, bC, bD, bE, bF, bG, bH] at hp))))
    | (refine Kn.go hK ?_; clear hK K)
    | refine Kn.go (by assumption) ?_
    | (intro n hn; (try simp only [upd_none2, join_none_iff, ite_none, ne_eq] at hn); (try simp only [push_cast, seval, *]))
    | (intro hc)
    | fail)
  exact ⟨_, H2, Weak.less (by repeat' (first | exact unhid l1 | refine le_skip ?_ (unhid l4))), y, rfl, unhid l2⟩
abbrev gl (g : AV) : Blk := .r 41 1 1 [[g]]
def lateP (c : Cd) (now : Int) (p : Pd) : Bool := decide (c.span ≤ now - p.begun)
theorem pdGo_bg (c : Cd) : ∀ (l : List Pd) (n b : Int), 0 ≤ b → pdGo c n b l = true → ∀ p ∈ l, 0 ≤ p.begun ∧ p.begun ≤ 1099511627776
  | [], _, _, _, _ => by simp
  | p :: l, n, b, hb, h => fun q hq => by
    simp only [pdGo, Bool.and_eq_true, decide_eq_true_eq] at h
    rcases List.mem_cons.1 hq with rfl | hq
    · omega
    · exact pdGo_bg c l _ _ (by omega) h.2 q hq
theorem tick11_a (c : Cd) (now : Int) (y : AV) (p : Pd) (hy : y.cs = some [y]) (hw : IntKind.i64.wrap (now - p.begun) = now - p.begun) (x : AV) (m1 nc nb : Nat) (A : Heap) (h1 : A m1 = some (.r 2 1 1 [[.c (.int .i64 now)]])) (h2 : A nc = some (.r 95 1 1 [[.p nb 6 0 0]])) (h3 : A nb = some (bxC c x)) :
    ACall Try.prog 74 ([.g (encP (y, p))] ++ [.p m1 1 0 0, .p nc 1 0 0]) A fun r A' => r = .c (.bool (lateP c now p)) ∧ A' = A := by
  have o1 := ne_old h1
  have o2 := ne_old h2
  have o3 := ne_old h3
  obtain ⟨num, bg, sv, ac⟩ := p
  obtain ⟨c0, c1, c2, c3, c4, l⟩ := c
  simp only [bxC, Cd.cl] at h3
  simp only [encP, List.cons_append, List.nil_append, lateP]
  simp only at hw
  refine ACall_of' Try.func74 rfl (Ent_of Try.func74 (by kernel_rfl) rfl) (by simp [Try.ntmps74]) ?_; simp only [Try.ntmps74, Try.results74]
  repeat' (first
    | refine AW_seq_kn fun K hK => ?_
    | refine AW_block ?_
    | ((first
      | refine AW_region_draw (id := 1) E0 (fun f => [].contains f) [(0, false, []), (1, false, []), (2, false, []), (3, false, []), (4, false, []), (5, false, []), (6, false, []), (7, false, []), (8, false, []), (9, false, [])] [[], [], [1], [0, 1, 2], [], [4], [4, 5], [4, 5, 6], [0, 1, 2, 3, 4, 5, 6, 7], [0, 1, 2, 3, 4, 5, 6, 7, 8]] mixed (by kernel_rfl) ?_
      | refine AW_region E0 ?_ | refine AW_ret ?_ | refine AW_exit ?_ | refine AW_skip ?_ | unfold retQ); try simp only [push_cast, seval, *])
    | (apply AW_cond; (case hc => (simp only [push_cast, seval]; rfl)); all_goals (intro hc; first | (exfalso; simp only [push_cast, seval, *] at hc; done) | (exact absurd hc (by decide)) | ((try first | rw [Bool.not_true] at hc | rw [Bool.not_false] at hc); first | (with_reducible replace hc := tTT hc); clear hc | (with_reducible replace hc := tFF hc); clear hc | (have hp := hc; try simp only [decide_eq_true_eq, decide_eq_false_iff_not, bA, bB, bC, bD, bE, bF, bG, bH] at hp))))
    | (refine Kn.go hK ?_; clear hK K)
    | refine Kn.go (by assumption) ?_
    | (intro n hn; (try simp only [upd_none2, join_none_iff, ite_none, ne_eq] at hn); (try simp only [push_cast, seval, *]))
    | (intro hc)
    | fail)
  exact ⟨_, _, Weak.less (by (simp only [push_cast, seval, *])), rfl, rfl⟩
def tickE (now : Int) : Int := if (decide (0 ≤ now) && decide (now ≤ 1099511627776)) = true then 0 else 2
theorem tick1_a (c : Cd) (hok : cdOk c = true) (now : Int) (x : AV) (A : Heap) (nb : Nat) (G : Heap) (hnb : G nb = none) (m1 m2 : Nat) (h12 : ¬ m1 = m2) (h1 : G m1 = some (.r 2 1 1 [[.c (.int .i64 now)]])) (h2 : G m2 = some (gl (.c (.slice none 0 0)))) (h : OwnP x c.pend A (upd G nb (bxC c x))) :
    ACall Try.prog 73 ([.p nb 6 0 0] ++ [.p m1 1 0 0, .p m2 1 0 0]) A fun r A' => r = .c (.int .i64 (tickE now)) ∧ ((tickE now = 0 ∧ ∃ x' G', (∃ g, OwnL G' g 25 1 ((c.pend.filter (lateP c now)).map fun p => iu p.num) (upd G m2 (gl g))) ∧ G' nb = none ∧ OwnP x' (c.pend.filter fun p => !lateP c now p) A' (upd G' nb (bxC c x'))) ∨ (¬ tickE now = 0 ∧ ∃ G', G' = G ∧ Heap.le G' A')) := by
  have hne : ∀ m b, G m = some b → ¬ m = nb := fun m b hm => by rintro rfl; rw [hm] at hnb; cases hnb
  have b1 := hne _ _ h1
  have b2 := hne _ _ h2
  have b2' : ¬ nb = m2 := fun e => b2 e.symm
  have kb := (OwnP_loc x c.pend).get h (upd_same _ _ _)
  have k1 := (OwnP_loc x c.pend).get h (m := m1) (by rw [upd_ne b1]; exact h1)
  have k2 := (OwnP_loc x c.pend).get h (m := m2) (by rw [upd_ne b2]; exact h2)
  have hle : Heap.le G A := Heap.le_trans (le_upd_new hnb) ((OwnP_loc x c.pend).le h)
  obtain ⟨hl2, hbd⟩ := cdOk_bd hok
  have hbg := pdGo_bg c c.pend 0 0 (by omega) (by simp only [cdOk, Bool.and_eq_true] at hok; exact hok.2)
  unfold tickE
  cases hW : (decide (0 ≤ now) && decide (now ≤ 1099511627776))
  · clear hbg hbd hl2
    replace hle := Lib.hid hle
    have o1 := ne_old k1
    simp only [bxC, Cd.cl, List.cons_append, List.nil_append] at kb ⊢
    refine ACall_of' Try.func73 rfl (Ent_of Try.func73 (by kernel_rfl) rfl) (by simp [Try.ntmps73]) ?_; simp only [Try.ntmps73, Try.results73]
    repeat' (first
    | refine AW_seq_kn fun K hK => ?_
    | refine AW_block ?_
    | (refine does_call rfl rfl ?_; simp only [push_cast, seval, *]; refine ACall.monoP (within64_p _ _ _ _) ?_; (try simp only [push_cast, seval, *]))
    | ((first
      | refine AW_region E0 ?_ | refine AW_ret ?_ | refine AW_exit ?_ | refine AW_skip ?_ | unfold retQ); try simp only [push_cast, seval, *])
    | (apply AW_cond; (case hc => (simp only [push_cast, seval]; rfl)); all_goals (intro hc; first | (exfalso; simp only [push_cast, seval, *] at hc; done) | (exact absurd hc (by decide)) | ((try first | rw [Bool.not_true] at hc | rw [Bool.not_false] at hc); first | (with_reducible replace hc := tTT hc); clear hc | (with_reducible replace hc := tFF hc); clear hc | (have hp := hc; try simp only [decide_eq_true_eq, decide_eq_false_iff_not, bA, bB, bC, bD, bE, bF, bG, bH] at hp))))
    | (refine Kn.go hK ?_; clear hK K)
    | refine Kn.go (by assumption) ?_
    | (intro n hn; (try simp only [upd_none2, join_none_iff, ite_none, ne_eq] at hn); (try simp only [push_cast, seval, *]))
    | (intro hc)
    | fail)
    exact ⟨_, A, Weak.less (by (simp only [push_cast, seval, *])), rfl, by first | exact .inr ⟨by decide, G, rfl, unhid hle⟩ | exact .inr ⟨G, rfl, unhid hle⟩⟩
  · have hnw : 0 ≤ now ∧ now ≤ 1099511627776 := by simpa using hW
    have hdr := fun (n : Nat) (hn : A n = none) => drop_o x c.pend (upd A n (.r 95 1 1 [[.p nb 6 0 0]])) (upd (upd G nb (bxC c x)) n (.r 95 1 1 [[.p nb 6 0 0]])) nb c (by omega) ((OwnP_loc x c.pend).new h hn _) (by rw [upd_ne (by rintro rfl; rw [kb] at hn; cases hn), upd_same]) (lateP c now) 74 [.p m1 1 0 0, .p n 1 0 0] (fun y p hp hy Gx hG => by
      have hnbn : nb ≠ n := by rintro rfl; rw [kb] at hn; cases hn
      have hm1n : m1 ≠ n := by rintro rfl; rw [k1] at hn; cases hn
      have := hbg p hp
      exact tick11_a c now y p hy (wrap_i64 (by omega) (by omega)) x m1 n nb Gx (hG _ _ (by rw [upd_ne hm1n, upd_ne b1]; exact h1)) (hG _ _ (upd_same _ _ _)) (hG _ _ (by rw [upd_ne hnbn, upd_same])))
    have hfin : ∀ n g H1 H' x', A n = none → OwnL H' g 25 1 ((c.pend.filter (lateP c now)).map fun p => iu p.num) H1 → OwnP x' (c.pend.filter fun p => !lateP c now p) H1 (upd (upd (upd G nb (bxC c x)) n (.r 95 1 1 [[.p nb 6 0 0]])) nb (bxC c x')) →
        H' m2 = some (gl (.c (.slice none 0 0))) ∧ ∃ Hf', Heap.le Hf' (upd H' m2 (gl g)) ∧ ∃ x' G', (∃ g, OwnL G' g 25 1 ((c.pend.filter (lateP c now)).map fun p => iu p.num) (upd G m2 (gl g))) ∧ G' nb = none ∧ OwnP x' (c.pend.filter fun p => !lateP c now p) Hf' (upd G' nb (bxC c x')) := fun n g H1 H' x' hn o1 o2 => by
      have hm2n : m2 ≠ n := by rintro rfl; rw [k2] at hn; cases hn
      have hnbn : nb ≠ n := by rintro rfl; rw [kb] at hn; cases hn
      have e2 : upd (upd (upd G nb (bxC c x)) n (.r 95 1 1 [[.p nb 6 0 0]])) nb (bxC c x') m2 = some (gl (.c (.slice none 0 0))) := by rw [upd_ne b2, upd_ne hm2n, upd_ne b2]; exact h2
      have q1 := (OwnP_loc x' _).get o2 e2
      have t1 := (Loc.own _ _ _ _).turn o1 q1 (gl g)
      have t2 := (OwnP_loc x' _).turn o2 e2 (gl g)
      obtain ⟨Hf', G', f1, f2, f3, f4⟩ := post_fin (Loc.own g 25 1 ((c.pend.filter (lateP c now)).map fun p => iu p.num)) (nb := nb) (bx := bxC c x') (Gm := upd G m2 (gl g)) t1 t2 (fun q b hq => by
        by_cases c1 : q = nb
        · subst c1; rw [upd_same] at hq; rw [upd_ne b2', upd_same]; exact hq
        · rw [upd_ne c1] at hq
          by_cases c2 : q = m2
          · subst c2; rw [upd_same] at hq ⊢; exact hq
          · rw [upd_ne c2] at hq ⊢
            have hAq := hle q b hq
            rw [upd_ne c1, upd_ne (by rintro rfl; rw [hn] at hAq; cases hAq), upd_ne c1]; exact hq) (by rw [upd_ne b2']; exact hnb)
      exact ⟨(Loc.own _ _ _ _).get o1 q1, Hf', f1, x', G', ⟨g, f2⟩, f3, f4⟩
    clear hbg hbd hl2 hnw h hle h1 h2
    replace hdr := Lib.hid hdr
    replace hfin := Lib.hid hfin
    have ob := ne_old kb
    have o1 := ne_old k1
    have o2 := ne_old k2
    simp only [bxC, Cd.cl, List.cons_append, List.nil_append, gl] at kb k2 ⊢
    refine ACall_of' Try.func73 rfl (Ent_of Try.func73 (by kernel_rfl) rfl) (by simp [Try.ntmps73]) ?_; simp only [Try.ntmps73, Try.results73]
    repeat' (first
    | refine AW_seq_kn fun K hK => ?_
    | refine AW_block ?_
    | (refine does_call rfl rfl ?_; simp only [push_cast, seval, *]; refine ACall.monoP (within64_p _ _ _ _) ?_; (try simp only [push_cast, seval, *]))
    | ((first
      | refine AW_region E0 ?_ | refine AW_ret ?_ | refine AW_exit ?_ | refine AW_skip ?_ | unfold retQ); try simp only [push_cast, seval, *])
    | (apply AW_cond; (case hc => (simp only [push_cast, seval]; rfl)); all_goals (intro hc; first | (exfalso; simp only [push_cast, seval, *] at hc; done) | (exact absurd hc (by decide)) | ((try first | rw [Bool.not_true] at hc | rw [Bool.not_false] at hc); first | (with_reducible replace hc := tTT hc); clear hc | (with_reducible replace hc := tFF hc); clear hc | (have hp := hc; try simp only [decide_eq_true_eq, decide_eq_false_iff_not, bA, bB, bC, bD, bE, bF, bG, bH] at hp))))
    | (refine Kn.go hK ?_; clear hK K)
    | refine Kn.go (by assumption) ?_
    | (intro n hn; (try simp only [upd_none2, join_none_iff, ite_none, ne_eq] at hn); (try simp only [push_cast, seval, *]))
    | (intro hc)
    | fail)
    refine does_call rfl rfl ?_
    simp only [push_cast, seval, *]
    refine ACall.mono (unhid hdr n hn) ?_
    rintro g H' ⟨x', H1, p1, p2⟩
    obtain ⟨km2, Hf', f1, f2⟩ := unhid hfin n g H1 H' x' hn p1 p2
    have hgcs := p1.cs
    have hgone := p1.one
    clear hdr hfin p1 p2
    simp only [gl] at km2 f1
    replace f1 := Lib.hid f1
    replace f2 := Lib.hid f2
    (try simp only [push_cast, seval, *])
    repeat' (first
    | refine AW_seq_kn fun K hK => ?_
    | refine AW_block ?_
    | (refine does_call rfl rfl ?_; simp only [push_cast, seval, *]; refine ACall.monoP (within64_p _ _ _ _) ?_; (try simp only [push_cast, seval, *]))
    | ((first
      | refine AW_region E0 ?_ | refine AW_ret ?_ | refine AW_exit ?_ | refine AW_skip ?_ | unfold retQ); try simp only [push_cast, seval, *])
    | (apply AW_cond; (case hc => (simp only [push_cast, seval]; rfl)); all_goals (intro hc; first | (exfalso; simp only [push_cast, seval, *] at hc; done) | (exact absurd hc (by decide)) | ((try first | rw [Bool.not_true] at hc | rw [Bool.not_false] at hc); first | (with_reducible replace hc := tTT hc); clear hc | (with_reducible replace hc := tFF hc); clear hc | (have hp := hc; try simp only [decide_eq_true_eq, decide_eq_false_iff_not, bA, bB, bC, bD, bE, bF, bG, bH] at hp))))
    | (refine Kn.go hK ?_; clear hK K)
    | refine Kn.go (by assumption) ?_
    | (intro n hn; (try simp only [upd_none2, join_none_iff, ite_none, ne_eq] at hn); (try simp only [push_cast, seval, *]))
    | (intro hc)
    | fail)
    exact ⟨_, Hf', Weak.less (unhid f1), rfl, by first | exact .inl ⟨rfl, unhid f2⟩ | exact .inl (unhid f2)⟩
end Go.Proofs.Ytlbdpnlmdcajbaa
