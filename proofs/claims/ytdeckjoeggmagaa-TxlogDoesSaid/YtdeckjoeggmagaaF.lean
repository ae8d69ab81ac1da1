/- Walks: a copy of a log is changed, when all may be. -/
import Derived.Test.YtdeckjoeggmagaaE
namespace Go.Proofs.Ytdeckjoeggmagaa
open Go.RowKit
open Nat renaming reduceEqDiff → nA, reduceLT → nB, reduceLeDiff → nC, reduceAdd → nD, reduceMul → nE, reduceSub → nF, reduceBEq → nG
open Int renaming reduceToNat → iA, reduceLT → iB, reduceLE → iC, reduceEq → iD
open Bool renaming and_eq_true → bA, or_eq_true → bB, or_eq_false_iff → bC, and_eq_false_iff → bD, not_eq_true' → bE, not_eq_false' → bF, not_true → bG, not_false → bH
set_option linter.all false
set_option maxHeartbeats 4000000
attribute [local irreducible] AW Does ACall tE tS tB tZ
def dLF0 : List En := [(0, false, []), (1, false, []), (3, false, []), (4, true, []), (6, false, []), (7, true, []), (2, false, [4, 7, 10]), (5, false, [7, 10]), (8, false, [10]), (9, false, []), (10, false, []), (11, false, [])]
def dAF0 : List (List Nat) := [[], [0], [0, 1], [], [3], [0, 1, 2, 3, 4], [], [6], [0, 1, 2, 3, 4, 5, 6, 7], [0, 1, 2, 3, 4, 5, 6, 7, 8], [], [0, 1, 2, 3, 4, 5, 6, 7, 8, 9, 10]]
attribute [push_cast] dLF0
def dLF1 : List En := [(0, false, []), (1, true, []), (2, false, []), (3, false, []), (4, false, []), (5, false, []), (6, false, []), (7, false, []), (8, false, []), (9, false, [1]), (10, false, []), (11, false, []), (12, false, [])]
def dAF1 : List (List Nat) := [[], [0], [], [], [3], [], [3, 4, 5], [3, 4, 5, 6], [3, 4, 5, 6, 7], [3, 4, 5, 6, 7, 8], [0, 1, 2, 3, 4, 5, 6, 7, 8, 9], [0, 1, 2, 3, 4, 5, 6, 7, 8, 9, 10], [0, 1, 2, 3, 4, 5, 6, 7, 8, 9, 10, 11]]
attribute [push_cast] dLF1
set_option maxRecDepth 5000

theorem with_g (l : Lg) (hf : l.fits) (ns : List Nm) (hns : ns.length ≤ maxLen) (hok : lgOk l = true) (hno : ns.all nmOk = true) (gf : FuncId) (caps : List AV) (G : Heap) (e : Int) (l' : Lg) (J : Heap → Prop)
    (h : ∀ x1 x2 x3 A nb, G nb = none → OwnG x1 x2 x3 l A (upd G nb (bxL x1 x2 x3)) → ACall Try.prog gf ([.p nb 3 0 0] ++ caps) A fun r A' => r = .c (.int .i64 e) ∧ ((e = 0 ∧ ∃ y1 y2 y3 G', J G' ∧ G' nb = none ∧ OwnG y1 y2 y3 l' A' (upd G' nb (bxL y1 y2 y3))) ∨ (¬ e = 0 ∧ ∃ G', J G' ∧ Heap.le G' A'))) :
    ACall Try.prog 75 [.g (Lg.av l), .f (.func gf) [] caps, .l 3 (ns.map Nm.av)] G fun r H' => (e = 0 ∧ ∃ y1 y2 y3 G', r = .t [gl y1 y2 y3, .c (.int .i64 0)] ∧ J G' ∧ OwnG y1 y2 y3 l' H' G') ∨ (¬ e = 0 ∧ r = .t [.g zL, .c (.int .i64 e)] ∧ J H') := by
  have hch := Check_p l hf
  rw [hok] at hch
  obtain ⟨hb1, hb2, hb3, -, hb5⟩ := lgOk_bd hok
  have hc1 := txclone_o l.txs (by omega)
  have hc2 := nmclone_o l.done (by omega)
  have hc3 := rcclone_o l.log (by omega)
  obtain ⟨a, b, c⟩ := l
  simp only [Lg.av, if_true] at hch ⊢
  simp only at hc1 hc2 hc3 hb1 hb2 hb3 hb5
  unfold maxLen at hns
  clear hf hok
  replace hno := Lib.hid hno
  replace h := Lib.hid h
  replace hb5 := Lib.hid hb5
  refine ACall_of' Try.func75 rfl (Ent_of Try.func75 (by kernel_rfl) rfl) (by simp [Try.ntmps75]) ?_; simp only [Try.ntmps75, Try.results75]
  repeat' (first
    | refine AW_seq_kn fun K hK => ?_
    | refine AW_block ?_
    | (refine does_call rfl rfl ?_; simp only [push_cast, seval, *]; refine ACall.monoP (hch _) ?_; (try simp only [push_cast, seval, *]))
    | ((first
      | refine AW_region_draw (id := 11) E0 (fun f => [].contains f) dLF0 dAF0 mixed (by kernel_rfl) ?_
      | refine AW_region_draw (id := 15) E0 (fun f => [].contains f) dLF1 dAF1 mixed (by kernel_rfl) ?_
      | refine AW_region E0 ?_ | refine AW_ret ?_ | refine AW_exit ?_ | refine AW_skip ?_ | unfold retQ); try simp only [push_cast, seval, *])
    | (apply AW_cond; (case hc => (simp only [push_cast, seval]; rfl)); all_goals (intro hc; first | (exfalso; simp only [push_cast, seval, *] at hc; done) | (exact absurd hc (by decide)) | ((try first | rw [Bool.not_true] at hc | rw [Bool.not_false] at hc); first | (with_reducible replace hc := tTT hc); clear hc | (with_reducible replace hc := tFF hc); clear hc | (have hp := hc; try simp only [decide_eq_true_eq, decide_eq_false_iff_not, bA, bB, bC, bD, bE, bF, bG, bH] at hp))))
    | (refine Kn.go hK ?_; clear hK K)
    | refine Kn.go (by assumption) ?_
    | (intro n hn; (try simp only [upd_none2, join_none_iff, ite_none, ne_eq] at hn); (try simp only [push_cast, seval, *]))
    | (intro hc)
    | fail)
  rename_i n1 h1
  generalize n = n2 at *
  have n12 : ¬ n1 = n2 := hn.1.2
  have n21 : ¬ n2 = n1 := hn.1.1
  have gn1 : G n1 = none := h1
  have gn2 : G n2 = none := hn.2
  obtain ⟨M, hM⟩ : ∃ M : Heap, M = upd (upd G n1 (.r 47 3 1 [[.l 5 (a.map Tx.av), .l 3 (b.map Nm.av), .l 3 (c.map Rec.av)]])) n2 (.r 47 3 1 [zL]) := ⟨_, rfl⟩
  have m1 : M n1 = some (.r 47 3 1 [[.l 5 (a.map Tx.av), .l 3 (b.map Nm.av), .l 3 (c.map Rec.av)]]) := by rw [hM, upd_ne n12, upd_same]
  have m2 : M n2 = some (.r 47 3 1 [zL]) := by rw [hM, upd_same]
  rw [← hM]
  clear h1 hn hch
  replace hM := Lib.hid hM
  refine AW_loopN ns.length (fun k => (ns.drop k).all nmOk = true) (fun k => [(1, .f (.func gf) [] caps), (3, .p n1 3 0 0), (6, .p n2 3 0 0), (21, .l 3 (ns.map Nm.av)), (22, ci ns.length), (23, ci k)]) (fun _ => M) (by rw [List.drop_zero]; exact unhid hno) ?_ ?_ ?_ ?_
  · (first | trivial | (simp only [push_cast, seval, *]; done))
  · exact Heap.le_refl _
  · intro k hk hinv
    have hx := List.getElem?_eq_getElem (l := ns) hk; generalize ns[k] = x at hx; have hxm := List.mem_of_getElem? hx; have hkl : (k : Int) < ns.length := (by omega); have hkw : IntKind.i64.wrap ((k : Int) + 1) = (k : Int) + 1 := wrap_i64 (by omega) (by omega)
    rw [drop_get hx, List.all_cons, Bool.and_eq_true] at hinv
    have hcn := CheckName_p x
    rw [if_pos hinv.1] at hcn
    obtain ⟨hi1, hi2⟩ := hinv
    replace hi2 := Lib.hid hi2
    obtain ⟨s, at_, m⟩ := x
    have hnv : Nm.av ⟨s, at_, m⟩ = [.c (.int .i64 s), .c (.int .i64 at_), .c (.int .i64 m)] := rfl
    simp only [hnv] at hcn
    clear hxm hno hc1 hc2 hc3
    repeat' (first
    | refine AW_seq_kn fun K hK => ?_
    | refine AW_block ?_
    | (refine does_call rfl rfl ?_; simp only [push_cast, seval, *]; refine ACall.monoP (hcn _) ?_; (try simp only [push_cast, seval, *]))
    | ((first
      | refine AW_region_draw (id := 11) E0 (fun f => [].contains f) dLF0 dAF0 mixed (by kernel_rfl) ?_
      | refine AW_region_draw (id := 15) E0 (fun f => [].contains f) dLF1 dAF1 mixed (by kernel_rfl) ?_
      | refine AW_region E0 ?_ | refine AW_ret ?_ | refine AW_exit ?_ | refine AW_skip ?_ | unfold retQ); try simp only [push_cast, seval, *])
    | (apply AW_cond; (case hc => (simp only [push_cast, seval]; rfl)); all_goals (intro hc; first | (exfalso; simp only [push_cast, seval, *] at hc; done) | (exact absurd hc (by decide)) | ((try first | rw [Bool.not_true] at hc | rw [Bool.not_false] at hc); first | (with_reducible replace hc := tTT hc); clear hc | (with_reducible replace hc := tFF hc); clear hc | (have hp := hc; try simp only [decide_eq_true_eq, decide_eq_false_iff_not, bA, bB, bC, bD, bE, bF, bG, bH] at hp))))
    | (refine Kn.go hK ?_; clear hK K)
    | refine Kn.go (by assumption) ?_
    | (intro n hn; (try simp only [upd_none2, join_none_iff, ite_none, ne_eq] at hn); (try simp only [push_cast, seval, *]))
    | (intro hc)
    | fail)
    exact ⟨unhid hi2, by (first | trivial | (simp only [push_cast, seval, *]; done)), by first | trivial | (repeat' (first | exact Heap.le_refl _ | refine hle_upd2 ?_ _ _ | (refine Heap.le_new ?_ ?_; rotate_left 1; focus (first | assumption | (simp only [upd_none2, upd_get, ne_eq, push_cast, seval, *]; done) | (simp [upd_get, *]; done)))))⟩
  · intro hinv
    clear hinv hno
    repeat' (first
    | refine AW_seq_kn fun K hK => ?_
    | refine AW_block ?_
    | (refine does_call rfl rfl ?_; simp only [push_cast, seval, *]; refine ACall.mono (hc1 _) ?_; intro x1 B1 ho1; have p1 := ho1.get m1; have p2 := ho1.get m2; have u1 := ho1.cs; have v1 := ho1.one; have w1 := ho1.len; (try simp only [push_cast, seval, *]))
    | (refine does_call rfl rfl ?_; simp only [push_cast, seval, *]; refine ACall.mono (hc2 _) ?_; intro x2 B2 ho2; have r1 := ho2.get p1; have r2 := ho2.get p2; have u2 := ho2.cs; have v2 := ho2.one; (try simp only [push_cast, seval, *]))
    | (refine does_call rfl rfl ?_; simp only [push_cast, seval, *]; refine ACall.mono (hc3 _) ?_; intro x3 B3 ho3; have s1 := ho3.get r1; have s2 := ho3.get r2; have u3 := ho3.cs; have v3 := ho3.one; (try simp only [push_cast, seval, *]))
    | ((first
      | refine AW_region_draw (id := 11) E0 (fun f => [].contains f) dLF0 dAF0 mixed (by kernel_rfl) ?_
      | refine AW_region_draw (id := 15) E0 (fun f => [].contains f) dLF1 dAF1 mixed (by kernel_rfl) ?_
      | refine AW_region E0 ?_ | refine AW_ret ?_ | refine AW_exit ?_ | refine AW_skip ?_ | unfold retQ); try simp only [push_cast, seval, *])
    | (apply AW_cond; (case hc => (simp only [push_cast, seval]; rfl)); all_goals (intro hc; first | (exfalso; simp only [push_cast, seval, *] at hc; done) | (exact absurd hc (by decide)) | ((try first | rw [Bool.not_true] at hc | rw [Bool.not_false] at hc); first | (with_reducible replace hc := tTT hc); clear hc | (with_reducible replace hc := tFF hc); clear hc | (have hp := hc; try simp only [decide_eq_true_eq, decide_eq_false_iff_not, bA, bB, bC, bD, bE, bF, bG, bH] at hp))))
    | (refine Kn.go hK ?_; clear hK K)
    | refine Kn.go (by assumption) ?_
    | (intro n hn; (try simp only [upd_none2, join_none_iff, ite_none, ne_eq] at hn); (try simp only [push_cast, seval, *]))
    | (intro hc)
    | fail)
    generalize n = nb at *
    clear hc1 hc2 hc3 p1 p2 r1 r2 s1 s2 m1
    have O := fun (x : AV) (ty : TypeId) (sz : Nat) (rows : List (List AV)) => Loc.own x ty sz rows
    obtain ⟨C1, e1, e2⟩ := (O _ _ _ _).swap (O _ _ _ _) ho2 ho1
    obtain ⟨C2, e3, e4⟩ := (O _ _ _ _).swap (O _ _ _ _) ho3 e1
    obtain ⟨C3, e5, e6⟩ := (O _ _ _ _).swap (O _ _ _ _) e4 e2
    have cn2 := (O _ _ _ _).old e3 hn
    have cn3 := (O _ _ _ _).old e5 cn2
    have cnM := (O _ _ _ _).old e6 cn3
    have gnb : G nb = none := le_no (by rw [unhid hM]; exact le_new2 gn1 gn2 n21) cnM
    have nb2 : ¬ nb = n2 := by rintro rfl; rw [m2] at cnM; cases cnM
    have n2b : ¬ n2 = nb := fun e => nb2 e.symm
    have f1 := (O _ _ _ _).new e3 hn (bxL x1 x2 x3)
    have f2 := (O _ _ _ _).new e5 cn2 (bxL x1 x2 x3)
    have f3 := (O _ _ _ _).new e6 cn3 (bxL x1 x2 x3)
    have hKle : Heap.le (upd (upd G n2 (.r 47 3 1 [zL])) nb (bxL x1 x2 x3)) (upd M nb (bxL x1 x2 x3)) := by
      intro q k hq
      rw [unhid hM]
      by_cases c1 : q = nb
      · subst c1; rw [upd_same] at hq ⊢; exact hq
      · rw [upd_ne c1] at hq ⊢
        by_cases c2 : q = n2
        · subst c2; rw [upd_same] at hq ⊢; exact hq
        · rw [upd_ne c2] at hq ⊢
          have c3 : q ≠ n1 := by rintro rfl; rw [gn1] at hq; cases hq
          rw [upd_ne c3]; exact hq
    obtain ⟨H', hl', C, g1, g2⟩ := ((O x1 86 5 (a.map Tx.av)).comp ((O x2 26 3 (b.map Nm.av)).comp (O x3 36 3 (c.map Rec.av)))).cut ⟨_, f1, _, f2, f3⟩ hKle
    have hLC := (O x2 26 3 (b.map Nm.av)).comp (O x3 36 3 (c.map Rec.av))
    have q1 := hLC.get g2 (upd_same _ _ _)
    have q2 := hLC.get g2 (m := n2) (by rw [upd_ne n2b]; exact upd_same _ _ _)
    clear ho1 ho2 ho3 e1 e2 e3 e4 e5 e6 cn2 cn3 cnM f1 f2 f3 hKle hM m2 O w1 hn
    replace g2 := Lib.hid g2
    replace hLC := Lib.hid hLC
    refine AW_loopX (σ := List (AV × Tx) × Heap) a.length (fun k s => ∃ H1, OwnL s.2 x1 86 5 (s.1.map encX ++ (a.drop k).map Tx.av) H1 ∧ Chain RX s.1 H1 C ∧ s.1.map Prod.snd = a.take k)
      (fun k s => [(1, .f (.func gf) [] caps), (6, .p n2 3 0 0), (12, .p nb 3 0 0), (46, ci a.length), (47, ci k)]) (fun k s => s.2) ([], H') ⟨C, g1, rfl, rfl⟩ ?_ ?_ ?_ ?_
    · (first | trivial | (simp only [push_cast, seval, *]; done))
    · exact hl'
    · rintro k ⟨L, Hs⟩ hk ⟨H1, ho, hch, hmap⟩
      simp only at ho hch hmap ⊢
      have hLk := map_len hmap (by omega)
      obtain ⟨p, hp⟩ : ∃ p, a[k]? = some p := ⟨_, List.getElem?_eq_getElem hk⟩
      have hR := fun y : AV => rows_at (f := encX) (g := Tx.av) hLk hp (y, p) (encX (y, p)) rfl
      have hms := fun y : AV => map_snoc (y := y) hmap hp
      have hkI : (k : Int) < a.length := by omega
      have hkw : IntKind.i64.wrap ((k : Int) + 1) = (k : Int) + 1 := wrap_i64 (by omega) (by omega)
      generalize hRR : L.map encX ++ (a.drop k).map Tx.av = R at ho hR
      obtain ⟨hRk, hRl, -⟩ := hR .x
      rcases ho.split with ⟨ad, -, rfl, -⟩ | ⟨np, cap, rfl, rfl, hnp⟩
      · simp at hRl; omega
      have j1 := (Loc.chain RX_loc L).get hch q1
      have j2 := (Loc.chain RX_loc L).get hch q2
      have t1 : ¬ nb = np := by rintro rfl; rw [hnp] at j1; cases j1
      have t2 : ¬ np = nb := fun e => t1 e.symm
      have t3 : ¬ n2 = np := by rintro rfl; rw [hnp] at j2; cases j2
      have t4 : ¬ np = n2 := fun e => t3 e.symm
      rw [hRl] at j1 ⊢
      have hbp := unhid hb5 p (List.mem_of_getElem? hp)
      have hac := rcclone_o p.rs (by omega)
      obtain ⟨⟨ps, pa, pn⟩, pst, prs⟩ := p
      simp only [Tx.av] at hRk
      simp only at hbp hac
      replace hR := Lib.hid hR
      replace hch := Lib.hid hch
      replace hms := Lib.hid hms
      clear ho hmap hRR q1 q2 g1 hl'
      repeat' (first
    | refine AW_seq_kn fun K hK => ?_
    | refine AW_block ?_
    | (refine does_call rfl rfl ?_; simp only [push_cast, seval, *]; refine ACall.mono (hac _) ?_; intro y G1 hoy; have hycs := hoy.cs; have hyone := hoy.one; have w1 := hoy.get (upd_same _ _ _); have w2 := hoy.get (m := nb) (by rw [upd_ne t1]; exact j1); have w3 := hoy.get (m := n2) (by rw [upd_ne t3]; exact j2); (try simp only [push_cast, seval, *]))
    | ((first
      | refine AW_region_draw (id := 11) E0 (fun f => [].contains f) dLF0 dAF0 mixed (by kernel_rfl) ?_
      | refine AW_region_draw (id := 15) E0 (fun f => [].contains f) dLF1 dAF1 mixed (by kernel_rfl) ?_
      | refine AW_region E0 ?_ | refine AW_ret ?_ | refine AW_exit ?_ | refine AW_skip ?_ | unfold retQ); try simp only [push_cast, seval, *])
    | (apply AW_cond; (case hc => (simp only [push_cast, seval]; rfl)); all_goals (intro hc; first | (exfalso; simp only [push_cast, seval, *] at hc; done) | (exact absurd hc (by decide)) | ((try first | rw [Bool.not_true] at hc | rw [Bool.not_false] at hc); first | (with_reducible replace hc := tTT hc); clear hc | (with_reducible replace hc := tFF hc); clear hc | (have hp := hc; try simp only [decide_eq_true_eq, decide_eq_false_iff_not, bA, bB, bC, bD, bE, bF, bG, bH] at hp))))
    | (refine Kn.go hK ?_; clear hK K)
    | refine Kn.go (by assumption) ?_
    | (intro n hn; (try simp only [upd_none2, join_none_iff, ite_none, ne_eq] at hn); (try simp only [push_cast, seval, *]))
    | (intro hc)
    | fail)
      have hoz2 := hoy.dele (upd_same _ _ _)
      rw [del_upd_same hnp] at hoz2
      have hA3 := (unhid hR y).2.2
      simp only [encX] at hA3
      refine ⟨(L ++ [(y, ⟨⟨ps, pa, pn⟩, pst, prs⟩)], upd G1 np (.r 86 5 cap (R.set k [.c (.int .i64 ps), .c (.int .i64 pa), .c (.int .i64 pn), .c (.int .i64 pst), y]))), ⟨del G1 np, ?_, Chain.snoc RX_loc (a := (⟨⟨ps, pa, pn⟩, pst, prs⟩ : Tx)) hoz2 (unhid hch), unhid hms y⟩, by first | trivial | (first | trivial | (simp only [push_cast, seval, *]; done)), Heap.le_refl _⟩
      rw [hA3]
      exact OwnL.put (by rw [← hA3]; simp [hRl])
    · rintro ⟨L, Hs⟩ ⟨H1, ho, hch, hmap⟩
      simp only [List.drop_length, List.map_nil, List.append_nil, List.take_length] at ho hch hmap ⊢
      have hop : OwnX x1 a Hs C := ⟨L, hmap, H1, ho, hch⟩
      have hG : OwnG x1 x2 x3 ⟨a, b, c⟩ Hs (upd (upd G n2 (.r 47 3 1 [zL])) nb (bxL x1 x2 x3)) := ⟨C, hop, unhid g2⟩
      rw [upd_comm n2b] at hG
      obtain ⟨f1, f2⟩ := upd_split (H := upd G nb (bxL x1 x2 x3)) (n := n2) (k := (.r 47 3 1 [zL])) (by rw [upd_ne n2b]; exact gn2)
      have hcall := ACall.fr (OwnG_loc x1 x2 x3 ⟨a, b, c⟩) (by rw [← f1]; exact hG) f2 (fun A hA => unhid h x1 x2 x3 A nb gnb hA)
      have j1 := (OwnG_loc x1 x2 x3 ⟨a, b, c⟩).get hG (m := nb) (by rw [upd_ne nb2, upd_same])
      have j2 := (OwnG_loc x1 x2 x3 ⟨a, b, c⟩).get hG (upd_same _ _ _)
      clear ho hch hmap hop hG f1 g2 q1 q2 g1 hl' h hb5 u1 u2 u3 v1 v2 v3 hLC
      replace hcall := Lib.hid hcall
      repeat' (first
    | refine AW_seq_kn fun K hK => ?_
    | refine AW_block ?_
    | ((first
      | refine AW_region_draw (id := 11) E0 (fun f => [].contains f) dLF0 dAF0 mixed (by kernel_rfl) ?_
      | refine AW_region_draw (id := 15) E0 (fun f => [].contains f) dLF1 dAF1 mixed (by kernel_rfl) ?_
      | refine AW_region E0 ?_ | refine AW_ret ?_ | refine AW_exit ?_ | refine AW_skip ?_ | unfold retQ); try simp only [push_cast, seval, *])
    | (apply AW_cond; (case hc => (simp only [push_cast, seval]; rfl)); all_goals (intro hc; first | (exfalso; simp only [push_cast, seval, *] at hc; done) | (exact absurd hc (by decide)) | ((try first | rw [Bool.not_true] at hc | rw [Bool.not_false] at hc); first | (with_reducible replace hc := tTT hc); clear hc | (with_reducible replace hc := tFF hc); clear hc | (have hp := hc; try simp only [decide_eq_true_eq, decide_eq_false_iff_not, bA, bB, bC, bD, bE, bF, bG, bH] at hp))))
    | (refine Kn.go hK ?_; clear hK K)
    | refine Kn.go (by assumption) ?_
    | (intro n hn; (try simp only [upd_none2, join_none_iff, ite_none, ne_eq] at hn); (try simp only [push_cast, seval, *]))
    | (intro hc)
    | fail)
      refine does_call_f rfl (by simp only [push_cast, seval]; rfl) ?_
      simp only [push_cast, seval, *]
      refine ACall.mono (unhid hcall) ?_
      rintro r H' ⟨B', rfl, hap, rfl, hpost⟩
      have b2n : B' n2 = none := by
        rcases hap n2 with g | g
        · exact g
        · rw [upd_same] at g; cases g
      have g2 : join B' (upd emp n2 (.r 47 3 1 [zL])) n2 = some (.r 47 3 1 [zL]) := by rw [join_right b2n, upd_same]
      have hBle : ∀ blk, Heap.le B' (upd (join B' (upd emp n2 (.r 47 3 1 [zL]))) n2 blk) := fun blk q b hq => by
        have : q ≠ n2 := by rintro rfl; rw [b2n] at hq; cases hq
        rw [upd_ne this]; exact join_left hq
      clear hcall hap f2 j1 j2
      rcases hpost with ⟨rfl, y1, y2, y3, G', hJ, hn', ho⟩ | ⟨he, G', hJ, hle⟩
      · have g1 : join B' (upd emp n2 (.r 47 3 1 [zL])) nb = some (.r 47 3 1 [[y1, y2, y3]]) := join_left ((OwnG_loc y1 y2 y3 l').get ho (upd_same _ _ _))
        obtain ⟨H2, l1, l2⟩ := (OwnG_loc y1 y2 y3 l').cut ho (K := G') (le_upd_new hn')
        obtain ⟨⟨z1, z2, z3⟩, z4, z5, z6⟩ := OwnG_cs l2
        generalize join B' (upd emp n2 (.r 47 3 1 [zL])) = HJ at *
        clear ho
        replace l1 := Lib.hid l1
        replace l2 := Lib.hid l2
        replace hJ := Lib.hid hJ
        replace hBle := Lib.hid hBle
        (try simp only [push_cast, seval, *])
        repeat' (first
    | refine AW_seq_kn fun K hK => ?_
    | refine AW_block ?_
    | ((first
      | refine AW_region_draw (id := 11) E0 (fun f => [].contains f) dLF0 dAF0 mixed (by kernel_rfl) ?_
      | refine AW_region_draw (id := 15) E0 (fun f => [].contains f) dLF1 dAF1 mixed (by kernel_rfl) ?_
      | refine AW_region E0 ?_ | refine AW_ret ?_ | refine AW_exit ?_ | refine AW_skip ?_ | unfold retQ); try simp only [push_cast, seval, *])
    | (apply AW_cond; (case hc => (simp only [push_cast, seval]; rfl)); all_goals (intro hc; first | (exfalso; simp only [push_cast, seval, *] at hc; done) | (exact absurd hc (by decide)) | ((try first | rw [Bool.not_true] at hc | rw [Bool.not_false] at hc); first | (with_reducible replace hc := tTT hc); clear hc | (with_reducible replace hc := tFF hc); clear hc | (have hp := hc; try simp only [decide_eq_true_eq, decide_eq_false_iff_not, bA, bB, bC, bD, bE, bF, bG, bH] at hp))))
    | (refine Kn.go hK ?_; clear hK K)
    | refine Kn.go (by assumption) ?_
    | (intro n hn; (try simp only [upd_none2, join_none_iff, ite_none, ne_eq] at hn); (try simp only [push_cast, seval, *]))
    | (intro hc)
    | fail)
        exact ⟨_, H2, Weak.less (Heap.le_trans (unhid l1) (unhid hBle _)), .inl ⟨y1, y2, y3, G', rfl, unhid hJ, unhid l2⟩⟩
      · generalize join B' (upd emp n2 (.r 47 3 1 [zL])) = HJ at *
        have heF : (e = 0) = False := by simp [he]
        have heT : decide (e = 0) = false := by simp [he]
        replace hle := Lib.hid hle
        replace hJ := Lib.hid hJ
        replace hBle := Lib.hid hBle
        (try simp only [push_cast, seval, *])
        repeat' (first
    | refine AW_seq_kn fun K hK => ?_
    | refine AW_block ?_
    | ((first
      | refine AW_region_draw (id := 11) E0 (fun f => [].contains f) dLF0 dAF0 mixed (by kernel_rfl) ?_
      | refine AW_region_draw (id := 15) E0 (fun f => [].contains f) dLF1 dAF1 mixed (by kernel_rfl) ?_
      | refine AW_region E0 ?_ | refine AW_ret ?_ | refine AW_exit ?_ | refine AW_skip ?_ | unfold retQ); try simp only [push_cast, seval, *])
    | (apply AW_cond; (case hc => (simp only [push_cast, seval]; rfl)); all_goals (intro hc; first | (exfalso; simp only [push_cast, seval, *] at hc; done) | (exact absurd hc (by decide)) | ((try first | rw [Bool.not_true] at hc | rw [Bool.not_false] at hc); first | (with_reducible replace hc := tTT hc); clear hc | (with_reducible replace hc := tFF hc); clear hc | (have hp := hc; try simp only [decide_eq_true_eq, decide_eq_false_iff_not, bA, bB, bC, bD, bE, bF, bG, bH] at hp))))
    | (refine Kn.go hK ?_; clear hK K)
    | refine Kn.go (by assumption) ?_
    | (intro n hn; (try simp only [upd_none2, join_none_iff, ite_none, ne_eq] at hn); (try simp only [push_cast, seval, *]))
    | (intro hc)
    | fail)
        exact ⟨_, G', Weak.less (Heap.le_trans (unhid hle) (unhid hBle _)), .inr ⟨rfl, unhid hJ⟩⟩
end Go.Proofs.Ytdeckjoeggmagaa
