/- Walk of the document: Commit. -/
import Derived.Test.YtdeckjoeggmagaaDJ
import Derived.Test.YtdeckjoeggmagaaDK
import Derived.Test.YtdeckjoeggmagaaL
namespace Go.Proofs.Ytdeckjoeggmagaa
open Go.RowKit
open Nat renaming reduceEqDiff → nA, reduceLT → nB, reduceLeDiff → nC, reduceAdd → nD, reduceMul → nE, reduceSub → nF, reduceBEq → nG
open Int renaming reduceToNat → iA, reduceLT → iB, reduceLE → iC, reduceEq → iD
open Bool renaming and_eq_true → bA, or_eq_true → bB, or_eq_false_iff → bC, and_eq_false_iff → bD, not_eq_true' → bE, not_eq_false' → bF, not_true → bG, not_false → bH
set_option linter.all false
set_option maxHeartbeats 4000000
attribute [local irreducible] AW Does ACall tE tS tB tZ
def dLDL0 : List En := [(0, false, []), (1, false, []), (2, false, []), (3, false, []), (4, false, []), (5, false, []), (6, false, []), (7, false, []), (8, false, []), (9, false, []), (10, false, []), (11, false, [])]
def dADL0 : List (List Nat) := [[], [0], [0, 1], [0, 1, 2], [0, 1, 2], [0, 1, 2, 4], [0, 1, 2, 3, 4, 5], [0, 1, 2, 3, 4, 5, 6], [0, 1, 2], [0, 1, 2, 3, 4, 5, 6, 7, 8], [0, 1, 2, 3, 4, 5, 6, 7, 8, 9], [0, 1, 2, 3, 4, 5, 6, 7, 8, 9, 10]]
attribute [push_cast] dLDL0
def dLDL1 : List En := [(0, false, []), (1, false, []), (2, false, []), (3, false, []), (4, false, []), (5, false, []), (6, false, []), (7, false, []), (9, false, []), (10, true, []), (11, true, []), (8, false, [10, 11, 12]), (14, false, []), (12, false, []), (13, false, []), (15, false, []), (16, false, []), (17, false, [])]
def dADL1 : List (List Nat) := [[], [0], [], [2], [], [2, 3, 4], [2, 3, 4, 5], [2, 3, 4, 5, 6], [0, 1, 2, 3, 4, 5, 6, 7], [], [9], [], [11], [0, 1, 2, 3, 4, 5, 6, 7, 8, 9, 10, 11, 12], [0, 1, 2, 3, 4, 5, 6, 7, 8, 9, 10], [0, 1, 2, 3, 4, 5, 6, 7, 8, 9, 10, 11, 12, 13, 14], [0, 1, 2, 3, 4, 5, 6, 7, 8, 9, 10, 11, 12, 13, 14, 15], [0, 1, 2, 3, 4, 5, 6, 7, 8, 9, 10, 11, 12, 13, 14, 15, 16]]
attribute [push_cast] dLDL1
def dLDL2 : List En := [(0, false, []), (1, false, []), (2, false, []), (3, false, []), (4, false, []), (5, false, []), (6, false, []), (7, false, []), (8, false, []), (9, false, []), (10, false, []), (11, false, []), (12, false, [])]
def dADL2 : List (List Nat) := [[], [0], [], [], [0, 1, 2, 3], [], [5], [], [7], [5, 6, 7, 8], [0, 1, 2, 3, 4, 5, 6, 7, 8, 9], [0, 1, 2, 3, 4, 5, 6, 7, 8, 9, 10], [0, 1, 2, 3, 4, 5, 6, 7, 8, 9, 10, 11]]
attribute [push_cast] dLDL2
set_option maxRecDepth 5000

/-- the log's rows: records on top, then names, then transactions -/
def OwnC (x1 x2 x3 : AV) (l : Lg) : HR := cmp2 (fun H H0 => OwnL H x3 36 3 (l.log.map Rec.av) H0) (cmp2 (fun H H0 => OwnL H x2 26 3 (l.done.map Nm.av) H0) (OwnB x1 86 5 (l.txs.map Tx.av)))
theorem OwnC_loc (x1 x2 x3 : AV) (l : Lg) : Loc (OwnC x1 x2 x3 l) := (Loc.own _ _ _ _).comp ((Loc.own _ _ _ _).comp (OwnB_loc _ _ _ _))
theorem OwnC_of {x1 x2 x3 : AV} {l : Lg} {H H0 : Heap} (h : OwnF x1 x2 x3 l H H0) (hc : ∀ n cap, x1 = .s n 5 0 (l.txs.map Tx.av).length cap → (l.txs.map Tx.av).length ≤ cap) : OwnC x1 x2 x3 l H H0 := by
  obtain ⟨A1, o1, A2, o2, o3⟩ := h
  obtain ⟨X, a1, a2⟩ := (Loc.own _ _ _ _).swap (Loc.own _ _ _ _) o2 o3
  obtain ⟨Y, b1, b2⟩ := (Loc.own _ _ _ _).swap (Loc.own _ _ _ _) o1 a1
  obtain ⟨Z, c1, c2⟩ := (Loc.own _ _ _ _).swap (Loc.own _ _ _ _) b2 a2
  exact ⟨Y, b1, Z, c1, OwnB.of c2 hc⟩
theorem OwnC_cs {x1 x2 x3 : AV} {l : Lg} {H H0 : Heap} (h : OwnC x1 x2 x3 l H H0) : (x1.cs = some [x1] ∧ x2.cs = some [x2] ∧ x3.cs = some [x3]) ∧ x1.one = true ∧ x2.one = true ∧ x3.one = true ∧ lenV x2 = some l.done.length := by
  obtain ⟨A1, o3, A2, o2, o1⟩ := h
  exact ⟨⟨o1.cs.1, o2.cs, o3.cs⟩, o1.cs.2.1, o2.one, o3.one, by rw [o2.len, List.length_map]⟩
theorem tx_len (l : List Tx) : (∀ e ∈ l.map Tx.av, e.length = 5) ∧ ∀ e ∈ l.map Tx.av, ∀ y ∈ e, y.one = true := by
  refine ⟨fun e he => ?_, fun e he y hy => ?_⟩
  · obtain ⟨t, -, rfl⟩ := List.mem_map.1 he; rfl
  · obtain ⟨t, -, rfl⟩ := List.mem_map.1 he
    simp only [Tx.av, List.mem_cons, List.not_mem_nil, or_false] at hy
    rcases hy with rfl | rfl | rfl | rfl | rfl <;> rfl
theorem OwnC_lent {x1 x2 x3 : AV} {l : Lg} {H H0 : Heap} (h : OwnC x1 x2 x3 l H H0) : Lent H (gl x1 x2 x3) (.g l.av) := by
  obtain ⟨A1, o3, A2, o2, o1⟩ := h
  have e3 := (Loc.own _ _ _ _).le o3
  have e2 := (Loc.own _ _ _ _).le o2
  exact gl_lent (((OwnB.lent (tx_len _).1 (tx_len _).2 o1).mono e2).mono e3) ((OwnL.lent o2).mono e3) (OwnL.lent o3)
theorem OwnC_wp {x1 x2 x3 : AV} {l : Lg} {H H0 : Heap} (h : OwnC x1 x2 x3 l H H0) : WP (fun F F' => Imp F F' (gl x1 x2 x3) (.g l.av)) H H0 := by
  obtain ⟨H1, h1, H2, h2, h3⟩ := h
  refine (((OwnL.wp h1).seq ((OwnL.wp h2).seq (OwnB.wp h3)))).mono fun F F' hF ⟨F1, f1, f2, hi, F2, f3, f4, hj, hk⟩ => ?_
  exact Imp.g (Imps.cons ((hk.down f3).down f1) (fun _ => rfl) (Imps.cons ((hj.1.up f4).down f1) (fun _ => rfl) (Imps.cons (hi.1.up f2) (fun _ => rfl) Imps.nil)))
theorem com1_len {l : Lg} {v : Nm} : (com1 l v).done.length ≤ l.done.length + 1 := by
  unfold com1; split
  · simp
  · omega
theorem comk_len : ∀ (ns : List Nm) (l : Lg), (ns.foldl com1 l).done.length ≤ l.done.length + ns.length
  | [], l => by simp
  | v :: ns, l => by
    have h1 := comk_len ns (com1 l v)
    have h2 := com1_len (l := l) (v := v)
    simp only [List.foldl_cons, List.length_cons]; omega
theorem comk_lw : ∀ (ns : List Nm) (l : Lg), LW l → LW (ns.foldl com1 l)
  | [], l, h => h
  | v :: ns, l, h => comk_lw ns _ (h.com1 v)
theorem wrong_first {l : Lg} {all vs : List Nm} {v : Nm} {w : Int} (hw : w = if v ∈ l.done then 0 else stopsE l.txs v all) : firstE l all (v :: vs) = if w = 0 then firstE l all vs else w := by
  rw [firstE, hw]
  by_cases h : v ∈ l.done
  · simp [h]
  · simp only [if_neg h]
theorem refCommit_p (l : Lg) (hok : lgOk l = true) (names : List Nm) (hns : names.length ≤ 30) : Pure Try.prog 69 [.g (Lg.av l), .l 3 (names.map Nm.av)] (.t [.g (if commitE l names = 0 then commitL l names else zeroL).av, .c (.int .i64 (commitE l names))]) := by
  intro H
  have hf := fits_of hok
  have hO := (lgOk_iff l).1 hok
  have hcp := fun M => Copy_f l hf M
  have hwr := fun v => refWrong_p l hok v names (by unfold maxLen; omega)
  have hls := fun x y : Nm => Less_p x y
  have hE : commitE l names = if riseN none names = false then 2 else if ¬ firstE l names names = 0 then firstE l names names else if 300 < (commitL l names).done.length then 6 else 0 := rfl
  have hC : commitL l names = names.foldl com1 l := rfl
  have hW := hO.lw
  have h300 := hO.d300
  generalize commitE l names = E at *
  generalize commitL l names = CL at *
  obtain ⟨pv, hp0, hp1, hp2⟩ : ∃ pv : Nat → Option Nm, pv 0 = none ∧ (∀ (k : Nat) (x : Nm), names[k]? = some x → pv (k + 1) = some x) ∧ ∀ k, k < names.length → (k = 0 ∧ pv k = none) ∨ ∃ j y, k = j + 1 ∧ names[j]? = some y ∧ pv k = some y := by
    refine ⟨fun k => match k with | 0 => none | j + 1 => names[j]?, rfl, fun k x hx => hx, fun k hk => ?_⟩
    cases k with
    | zero => exact .inl ⟨rfl, rfl⟩
    | succ j =>
      have hj : j < names.length := by omega
      exact .inr ⟨j, names[j], rfl, List.getElem?_eq_getElem hj, List.getElem?_eq_getElem hj⟩
  obtain ⟨R, hR⟩ : ∃ R, R = riseN none names := ⟨_, rfl⟩
  rw [← hR] at hE
  rw [← hp0] at hR
  obtain ⟨FE, hFE⟩ : ∃ FE, FE = firstE l names names := ⟨_, rfl⟩
  rw [← hFE] at hE
  have hwf := fun v vs => wrong_first (l := l) (all := names) (v := v) (vs := vs) rfl
  obtain ⟨fe, hfe⟩ : ∃ f : List Nm → Int, f = firstE l names := ⟨_, rfl⟩
  have hfe0 : fe [] = 0 := by rw [hfe]; rfl
  rw [← hfe] at hFE
  simp only [← hfe] at hwf
  obtain ⟨w, hw⟩ : ∃ w : Nm → Int, w = fun v => if v ∈ l.done then 0 else stopsE l.txs v names := ⟨_, rfl⟩
  have hww : ∀ v, (if v ∈ l.done then 0 else stopsE l.txs v names) = w v := fun v => by rw [hw]
  simp only [hww] at hwf hwr
  clear hfe hw hww hp0 hok hf hO
  obtain ⟨a, b, c⟩ := l
  simp only at h300
  simp only [Lg.av] at hcp hwr ⊢
  have hcm : ¬ E = 0 → (if E = 0 then CL else zeroL) = zeroL := fun h => if_neg h
  replace hcp := Lib.hid hcp
  replace hwr := Lib.hid hwr
  replace hls := Lib.hid hls
  replace hwf := Lib.hid hwf
  replace hp1 := Lib.hid hp1
  replace hp2 := Lib.hid hp2
  replace hR := Lib.hid hR
  replace hE := Lib.hid hE
  replace hFE := Lib.hid hFE
  replace hC := Lib.hid hC
  replace hW := Lib.hid hW
  replace hcm := Lib.hid hcm
  refine ACall_of' Try.func69 rfl (Ent_of Try.func69 (by kernel_rfl) rfl) (by simp [Try.ntmps69]) ?_; simp only [Try.ntmps69, Try.results69]
  repeat' (first
    | refine AW_seq_kn fun K hK => ?_
    | refine AW_block ?_
    | ((first
      | refine AW_region_draw (id := 4) E0 (fun f => [].contains f) dLDL0 dADL0 mixed (by kernel_rfl) ?_
      | refine AW_region_draw (id := 20) E0 (fun f => [].contains f) dLDL1 dADL1 mixed (by kernel_rfl) ?_
      | refine AW_region_draw (id := 21) E0 (fun f => [].contains f) dLDL2 dADL2 mixed (by kernel_rfl) ?_
      | refine AW_region E0 ?_ | refine AW_ret ?_ | refine AW_exit ?_ | refine AW_skip ?_ | unfold retQ); try simp only [push_cast, seval, *])
    | ((first | (apply AW_cond; (case hc => (simp only [push_cast, seval]; rfl))) | (apply ER_guard; (case hb => (simp only [push_cast, seval]; rfl)))); all_goals ((intro hc; first | (exfalso; simp only [push_cast, seval, *] at hc; done) | (exact absurd hc (by decide)) | ((try first | rw [Bool.not_true] at hc | rw [Bool.not_false] at hc); first | (with_reducible replace hc := tTT hc); clear hc | (with_reducible replace hc := tFF hc); clear hc | (have hp := hc; try simp only [decide_eq_true_eq, decide_eq_false_iff_not, bA, bB, bC, bD, bE, bF, bG, bH] at hp))) <;> try simp only [push_cast, seval, *]))
    | (refine Kn.go hK ?_; clear hK K)
    | refine Kn.go (by assumption) ?_
    | (intro n hn; (try simp only [upd_none2, join_none_iff, ite_none, ne_eq] at hn); (try simp only [push_cast, seval, *]))
    | (intro hc)
    | (apply ER_blk; (case hp => rfl); (case hb => (simp only [push_cast, seval]; rfl)); (case hd => (simp only [push_cast, seval]; done)); (case h => (intro hc; simp only [push_cast, seval, *]; rfl)); simp only [push_cast, seval, *])
    | fail)
  rename_i n2 h2
  generalize n = n4 at *
  have e2 : H n2 = none := h2
  have e4 : H n4 = none := hn.2
  have n24 : ¬ n2 = n4 := hn.1.2
  have n42 : ¬ n4 = n2 := hn.1.1
  obtain ⟨G, hG⟩ : ∃ G : Heap, G = upd (upd H n2 (.r 47 3 1 [[.l 5 (a.map Tx.av), .l 3 (b.map Nm.av), .l 3 (c.map Rec.av)]])) n4 (.r 47 3 1 [zL]) := ⟨_, rfl⟩
  have g2 : G n2 = some (.r 47 3 1 [[.l 5 (a.map Tx.av), .l 3 (b.map Nm.av), .l 3 (c.map Rec.av)]]) := by rw [hG, upd_ne n24, upd_same]
  have g4 : G n4 = some (.r 47 3 1 [zL]) := by rw [hG, upd_same]
  have hle : Heap.le H G := by rw [hG]; exact le_new2 e2 e4 n42
  rw [show upd (upd H n2 (.r 47 3 1 [[.l 5 (a.map Tx.av), .l 3 (b.map Nm.av), .l 3 (c.map Rec.av)]])) n4 (.r 47 3 1 [zL]) = G from hG.symm]
  have o2 := ne_old g2
  have o4 := ne_old g4
  clear hG h2 hn
  replace hle := Lib.hid hle
  refine AW_loopN names.length (fun k => R = riseN (pv k) (names.drop k)) (fun k => [(1, .l 3 (names.map Nm.av)), (2, .p n2 3 0 0), (4, .p n4 3 0 0), (14, .l 3 (names.map Nm.av)), (15, ci names.length), (16, ci k)]) (fun _ => G) (by rw [List.drop_zero]; exact unhid hR) ?_ ?_ ?_ ?_
  · (first | trivial | (simp only [push_cast, seval, *]; done))
  · exact Heap.le_refl _
  · intro k hk hinv
    have hx := List.getElem?_eq_getElem (l := names) hk; generalize names[k] = x at hx; have hxm := List.mem_of_getElem? hx; have hkl : (k : Int) < names.length := (by omega); have hkw : IntKind.i64.wrap ((k : Int) + 1) = (k : Int) + 1 := wrap_i64 (by omega) (by omega)
    have hpv := unhid hp2 k hk
    have hp3 := unhid hp1 k x hx
    rw [drop_get hx, riseN, ← hp3] at hinv
    clear hp3 hxm
    obtain ⟨x1, x2, x3⟩ := x
    have hxn : Nm.av ⟨x1, x2, x3⟩ = [.c (.int .i64 x1), .c (.int .i64 x2), .c (.int .i64 x3)] := rfl
    rcases hpv with ⟨hk0, hpn⟩ | ⟨j, y, hkj, hy, hpn⟩
    · have hkI : ¬ (0 : Int) < k := by omega
      rw [hpn] at hinv
      simp only [aftN, Bool.true_and] at hinv
      replace hinv := Lib.hid hinv
      clear hk0 hpn
      repeat' (first
    | refine AW_seq_kn fun K hK => ?_
    | refine AW_block ?_
    | ((first
      | refine AW_region_draw (id := 4) E0 (fun f => [].contains f) dLDL0 dADL0 mixed (by kernel_rfl) ?_
      | refine AW_region_draw (id := 20) E0 (fun f => [].contains f) dLDL1 dADL1 mixed (by kernel_rfl) ?_
      | refine AW_region_draw (id := 21) E0 (fun f => [].contains f) dLDL2 dADL2 mixed (by kernel_rfl) ?_
      | refine AW_region E0 ?_ | refine AW_ret ?_ | refine AW_exit ?_ | refine AW_skip ?_ | unfold retQ); try simp only [push_cast, seval, *])
    | ((first | (apply AW_cond; (case hc => (simp only [push_cast, seval]; rfl))) | (apply ER_guard; (case hb => (simp only [push_cast, seval]; rfl)))); all_goals ((intro hc; first | (exfalso; simp only [push_cast, seval, *] at hc; done) | (exact absurd hc (by decide)) | ((try first | rw [Bool.not_true] at hc | rw [Bool.not_false] at hc); first | (with_reducible replace hc := tTT hc); clear hc | (with_reducible replace hc := tFF hc); clear hc | (have hp := hc; try simp only [decide_eq_true_eq, decide_eq_false_iff_not, bA, bB, bC, bD, bE, bF, bG, bH] at hp))) <;> try simp only [push_cast, seval, *]))
    | (refine Kn.go hK ?_; clear hK K)
    | refine Kn.go (by assumption) ?_
    | (intro n hn; (try simp only [upd_none2, join_none_iff, ite_none, ne_eq] at hn); (try simp only [push_cast, seval, *]))
    | (intro hc)
    | (apply ER_blk; (case hp => rfl); (case hb => (simp only [push_cast, seval]; rfl)); (case hd => (simp only [push_cast, seval]; done)); (case h => (intro hc; simp only [push_cast, seval, *]; rfl)); simp only [push_cast, seval, *])
    | fail)
      exact ⟨unhid hinv, by (first | trivial | (simp only [push_cast, seval, *]; done)), by first | trivial | (repeat' (first | exact Heap.le_refl _ | refine hle_upd2 ?_ _ _ | (refine Heap.le_new ?_ ?_; rotate_left 1; focus (first | assumption | (simp only [upd_none2, upd_get, ne_eq, push_cast, seval, *]; done) | (simp [upd_get, *]; done)))))⟩
    · have hkI : (0 : Int) < k := by omega
      have hw1 : IntKind.i64.wrap ((k : Int) - 1) = (j : Int) := by rw [wrap_i64 (by omega) (by omega)]; omega
      have hl := unhid hls y ⟨x1, x2, x3⟩
      rw [hpn] at hinv
      obtain ⟨y1, y2, y3⟩ := y
      have hyn : Nm.av ⟨y1, y2, y3⟩ = [.c (.int .i64 y1), .c (.int .i64 y2), .c (.int .i64 y3)] := rfl
      simp only [aftN] at hinv
      have hlt : decide (cmpN (⟨y1, y2, y3⟩ : Nm) ⟨x1, x2, x3⟩ < 0) = ltN ⟨y1, y2, y3⟩ ⟨x1, x2, x3⟩ := by unfold ltN; rw [decide_eq_decide, cmpN_neg]
      rw [hlt] at hinv
      simp only [hyn, hxn] at hl
      clear hkj hlt hpn
      cases hB2 : ltN (⟨y1, y2, y3⟩ : Nm) ⟨x1, x2, x3⟩
      · have h0 : R = false := by rw [hinv, hB2]; simp
        rw [hB2] at hl
        have hE2 := unhid hE
        rw [if_pos h0] at hE2
        have hc2 := unhid hcm (by omega)
        clear hinv hR hB2 h0 hE
        replace hc2 := Lib.hid hc2
        subst hE2
        repeat' (first
    | refine AW_seq_kn fun K hK => ?_
    | refine AW_block ?_
    | (refine does_call rfl rfl ?_; simp only [push_cast, seval, *]; refine ACall.monoP (hl _) ?_; (try simp only [push_cast, seval, *]))
    | ((first
      | refine AW_region_draw (id := 4) E0 (fun f => [].contains f) dLDL0 dADL0 mixed (by kernel_rfl) ?_
      | refine AW_region_draw (id := 20) E0 (fun f => [].contains f) dLDL1 dADL1 mixed (by kernel_rfl) ?_
      | refine AW_region_draw (id := 21) E0 (fun f => [].contains f) dLDL2 dADL2 mixed (by kernel_rfl) ?_
      | refine AW_region E0 ?_ | refine AW_ret ?_ | refine AW_exit ?_ | refine AW_skip ?_ | unfold retQ); try simp only [push_cast, seval, *])
    | ((first | (apply AW_cond; (case hc => (simp only [push_cast, seval]; rfl))) | (apply ER_guard; (case hb => (simp only [push_cast, seval]; rfl)))); all_goals ((intro hc; first | (exfalso; simp only [push_cast, seval, *] at hc; done) | (exact absurd hc (by decide)) | ((try first | rw [Bool.not_true] at hc | rw [Bool.not_false] at hc); first | (with_reducible replace hc := tTT hc); clear hc | (with_reducible replace hc := tFF hc); clear hc | (have hp := hc; try simp only [decide_eq_true_eq, decide_eq_false_iff_not, bA, bB, bC, bD, bE, bF, bG, bH] at hp))) <;> try simp only [push_cast, seval, *]))
    | (refine Kn.go hK ?_; clear hK K)
    | refine Kn.go (by assumption) ?_
    | (intro n hn; (try simp only [upd_none2, join_none_iff, ite_none, ne_eq] at hn); (try simp only [push_cast, seval, *]))
    | (intro hc)
    | (apply ER_blk; (case hp => rfl); (case hb => (simp only [push_cast, seval]; rfl)); (case hd => (simp only [push_cast, seval]; done)); (case h => (intro hc; simp only [push_cast, seval, *]; rfl)); simp only [push_cast, seval, *])
    | fail)
        exact ⟨_, H, Weak.trans (Weak.less (H' := H) (le_skip (le_skip (unhid hle) (le_no (unhid hle) hn)) e4)) (zero_weak H 2), by first | rfl | (rw [unhid hc2]; rfl) | rw [unhid hc2], rfl⟩
      · rw [hB2] at hl hinv
        simp only [Bool.true_and] at hinv
        replace hinv := Lib.hid hinv
        clear hB2
        repeat' (first
    | refine AW_seq_kn fun K hK => ?_
    | refine AW_block ?_
    | (refine does_call rfl rfl ?_; simp only [push_cast, seval, *]; refine ACall.monoP (hl _) ?_; (try simp only [push_cast, seval, *]))
    | ((first
      | refine AW_region_draw (id := 4) E0 (fun f => [].contains f) dLDL0 dADL0 mixed (by kernel_rfl) ?_
      | refine AW_region_draw (id := 20) E0 (fun f => [].contains f) dLDL1 dADL1 mixed (by kernel_rfl) ?_
      | refine AW_region_draw (id := 21) E0 (fun f => [].contains f) dLDL2 dADL2 mixed (by kernel_rfl) ?_
      | refine AW_region E0 ?_ | refine AW_ret ?_ | refine AW_exit ?_ | refine AW_skip ?_ | unfold retQ); try simp only [push_cast, seval, *])
    | ((first | (apply AW_cond; (case hc => (simp only [push_cast, seval]; rfl))) | (apply ER_guard; (case hb => (simp only [push_cast, seval]; rfl)))); all_goals ((intro hc; first | (exfalso; simp only [push_cast, seval, *] at hc; done) | (exact absurd hc (by decide)) | ((try first | rw [Bool.not_true] at hc | rw [Bool.not_false] at hc); first | (with_reducible replace hc := tTT hc); clear hc | (with_reducible replace hc := tFF hc); clear hc | (have hp := hc; try simp only [decide_eq_true_eq, decide_eq_false_iff_not, bA, bB, bC, bD, bE, bF, bG, bH] at hp))) <;> try simp only [push_cast, seval, *]))
    | (refine Kn.go hK ?_; clear hK K)
    | refine Kn.go (by assumption) ?_
    | (intro n hn; (try simp only [upd_none2, join_none_iff, ite_none, ne_eq] at hn); (try simp only [push_cast, seval, *]))
    | (intro hc)
    | (apply ER_blk; (case hp => rfl); (case hb => (simp only [push_cast, seval]; rfl)); (case hd => (simp only [push_cast, seval]; done)); (case h => (intro hc; simp only [push_cast, seval, *]; rfl)); simp only [push_cast, seval, *])
    | fail)
        exact ⟨unhid hinv, by (first | trivial | (simp only [push_cast, seval, *]; done)), by first | trivial | (repeat' (first | exact Heap.le_refl _ | refine hle_upd2 ?_ _ _ | (refine Heap.le_new ?_ ?_; rotate_left 1; focus (first | assumption | (simp only [upd_none2, upd_get, ne_eq, push_cast, seval, *]; done) | (simp [upd_get, *]; done)))))⟩
  intro hinv
  rw [List.drop_length] at hinv
  have hRt : R = true := hinv
  have hE2 := unhid hE
  rw [if_neg (by rw [hRt]; decide)] at hE2
  clear hinv hR hRt hE hp1 hp2 hls
  replace hE2 := Lib.hid hE2
  repeat' (first
    | refine AW_seq_kn fun K hK => ?_
    | refine AW_block ?_
    | ((first
      | refine AW_region_draw (id := 4) E0 (fun f => [].contains f) dLDL0 dADL0 mixed (by kernel_rfl) ?_
      | refine AW_region_draw (id := 20) E0 (fun f => [].contains f) dLDL1 dADL1 mixed (by kernel_rfl) ?_
      | refine AW_region_draw (id := 21) E0 (fun f => [].contains f) dLDL2 dADL2 mixed (by kernel_rfl) ?_
      | refine AW_region E0 ?_ | refine AW_ret ?_ | refine AW_exit ?_ | refine AW_skip ?_ | unfold retQ); try simp only [push_cast, seval, *])
    | ((first | (apply AW_cond; (case hc => (simp only [push_cast, seval]; rfl))) | (apply ER_guard; (case hb => (simp only [push_cast, seval]; rfl)))); all_goals ((intro hc; first | (exfalso; simp only [push_cast, seval, *] at hc; done) | (exact absurd hc (by decide)) | ((try first | rw [Bool.not_true] at hc | rw [Bool.not_false] at hc); first | (with_reducible replace hc := tTT hc); clear hc | (with_reducible replace hc := tFF hc); clear hc | (have hp := hc; try simp only [decide_eq_true_eq, decide_eq_false_iff_not, bA, bB, bC, bD, bE, bF, bG, bH] at hp))) <;> try simp only [push_cast, seval, *]))
    | (refine Kn.go hK ?_; clear hK K)
    | refine Kn.go (by assumption) ?_
    | (intro n hn; (try simp only [upd_none2, join_none_iff, ite_none, ne_eq] at hn); (try simp only [push_cast, seval, *]))
    | (intro hc)
    | (apply ER_blk; (case hp => rfl); (case hb => (simp only [push_cast, seval]; rfl)); (case hd => (simp only [push_cast, seval]; done)); (case h => (intro hc; simp only [push_cast, seval, *]; rfl)); simp only [push_cast, seval, *])
    | fail)
  refine AW_loopN names.length (fun k => FE = fe (names.drop k)) (fun k => [(1, .l 3 (names.map Nm.av)), (2, .p n2 3 0 0), (4, .p n4 3 0 0), (35, .l 3 (names.map Nm.av)), (36, ci names.length), (37, ci k)]) (fun _ => G) (by rw [List.drop_zero]; exact unhid hFE) ?_ ?_ ?_ ?_
  · (first | trivial | (simp only [push_cast, seval, *]; done))
  · exact Heap.le_refl _
  · intro k hk hinv
    have hx := List.getElem?_eq_getElem (l := names) hk; generalize names[k] = x at hx; have hxm := List.mem_of_getElem? hx; have hkl : (k : Int) < names.length := (by omega); have hkw : IntKind.i64.wrap ((k : Int) + 1) = (k : Int) + 1 := wrap_i64 (by omega) (by omega)
    rw [drop_get hx, unhid hwf] at hinv
    have hw := unhid hwr x
    generalize w x = W at *
    obtain ⟨x1, x2, x3⟩ := x
    have hxn : Nm.av ⟨x1, x2, x3⟩ = [.c (.int .i64 x1), .c (.int .i64 x2), .c (.int .i64 x3)] := rfl
    simp only [hxn] at hw
    clear hxm
    by_cases hW0 : W = 0
    · rw [if_pos hW0] at hinv
      subst hW0
      replace hinv := Lib.hid hinv
      repeat' (first
    | refine AW_seq_kn fun K hK => ?_
    | refine AW_block ?_
    | (refine does_call rfl rfl ?_; simp only [push_cast, seval, *]; refine ACall.monoP (hw _) ?_; (try simp only [push_cast, seval, *]))
    | ((first
      | refine AW_region_draw (id := 4) E0 (fun f => [].contains f) dLDL0 dADL0 mixed (by kernel_rfl) ?_
      | refine AW_region_draw (id := 20) E0 (fun f => [].contains f) dLDL1 dADL1 mixed (by kernel_rfl) ?_
      | refine AW_region_draw (id := 21) E0 (fun f => [].contains f) dLDL2 dADL2 mixed (by kernel_rfl) ?_
      | refine AW_region E0 ?_ | refine AW_ret ?_ | refine AW_exit ?_ | refine AW_skip ?_ | unfold retQ); try simp only [push_cast, seval, *])
    | ((first | (apply AW_cond; (case hc => (simp only [push_cast, seval]; rfl))) | (apply ER_guard; (case hb => (simp only [push_cast, seval]; rfl)))); all_goals ((intro hc; first | (exfalso; simp only [push_cast, seval, *] at hc; done) | (exact absurd hc (by decide)) | ((try first | rw [Bool.not_true] at hc | rw [Bool.not_false] at hc); first | (with_reducible replace hc := tTT hc); clear hc | (with_reducible replace hc := tFF hc); clear hc | (have hp := hc; try simp only [decide_eq_true_eq, decide_eq_false_iff_not, bA, bB, bC, bD, bE, bF, bG, bH] at hp))) <;> try simp only [push_cast, seval, *]))
    | (refine Kn.go hK ?_; clear hK K)
    | refine Kn.go (by assumption) ?_
    | (intro n hn; (try simp only [upd_none2, join_none_iff, ite_none, ne_eq] at hn); (try simp only [push_cast, seval, *]))
    | (intro hc)
    | (apply ER_blk; (case hp => rfl); (case hb => (simp only [push_cast, seval]; rfl)); (case hd => (simp only [push_cast, seval]; done)); (case h => (intro hc; simp only [push_cast, seval, *]; rfl)); simp only [push_cast, seval, *])
    | fail)
      exact ⟨unhid hinv, by (first | trivial | (simp only [push_cast, seval, *]; done)), by first | trivial | (repeat' (first | exact Heap.le_refl _ | refine hle_upd2 ?_ _ _ | (refine Heap.le_new ?_ ?_; rotate_left 1; focus (first | assumption | (simp only [upd_none2, upd_get, ne_eq, push_cast, seval, *]; done) | (simp [upd_get, *]; done)))))⟩
    · rw [if_neg hW0] at hinv
      have hE3 := unhid hE2
      rw [hinv, if_pos hW0] at hE3
      have hc2 := unhid hcm (by rw [hE3]; exact hW0)
      subst hE3
      clear hinv hE2 hFE
      replace hc2 := Lib.hid hc2
      repeat' (first
    | refine AW_seq_kn fun K hK => ?_
    | refine AW_block ?_
    | (refine does_call rfl rfl ?_; simp only [push_cast, seval, *]; refine ACall.monoP (hw _) ?_; (try simp only [push_cast, seval, *]))
    | ((first
      | refine AW_region_draw (id := 4) E0 (fun f => [].contains f) dLDL0 dADL0 mixed (by kernel_rfl) ?_
      | refine AW_region_draw (id := 20) E0 (fun f => [].contains f) dLDL1 dADL1 mixed (by kernel_rfl) ?_
      | refine AW_region_draw (id := 21) E0 (fun f => [].contains f) dLDL2 dADL2 mixed (by kernel_rfl) ?_
      | refine AW_region E0 ?_ | refine AW_ret ?_ | refine AW_exit ?_ | refine AW_skip ?_ | unfold retQ); try simp only [push_cast, seval, *])
    | ((first | (apply AW_cond; (case hc => (simp only [push_cast, seval]; rfl))) | (apply ER_guard; (case hb => (simp only [push_cast, seval]; rfl)))); all_goals ((intro hc; first | (exfalso; simp only [push_cast, seval, *] at hc; done) | (exact absurd hc (by decide)) | ((try first | rw [Bool.not_true] at hc | rw [Bool.not_false] at hc); first | (with_reducible replace hc := tTT hc); clear hc | (with_reducible replace hc := tFF hc); clear hc | (have hp := hc; try simp only [decide_eq_true_eq, decide_eq_false_iff_not, bA, bB, bC, bD, bE, bF, bG, bH] at hp))) <;> try simp only [push_cast, seval, *]))
    | (refine Kn.go hK ?_; clear hK K)
    | refine Kn.go (by assumption) ?_
    | (intro n hn; (try simp only [upd_none2, join_none_iff, ite_none, ne_eq] at hn); (try simp only [push_cast, seval, *]))
    | (intro hc)
    | (apply ER_blk; (case hp => rfl); (case hb => (simp only [push_cast, seval]; rfl)); (case hd => (simp only [push_cast, seval]; done)); (case h => (intro hc; simp only [push_cast, seval, *]; rfl)); simp only [push_cast, seval, *])
    | fail)
      exact ⟨_, H, Weak.trans (Weak.less (H' := H) (le_skip (le_skip (unhid hle) (le_no (unhid hle) hn)) e4)) (zero_weak H _), by first | rfl | (rw [unhid hc2]; rfl) | rw [unhid hc2], rfl⟩
  intro hinv
  rw [List.drop_length, hfe0] at hinv
  have hE3 := unhid hE2
  rw [hinv, if_neg (by decide)] at hE3
  clear hinv hFE hE2 hwf hwr hfe0
  replace hE3 := Lib.hid hE3
  repeat' (first
    | refine AW_seq_kn fun K hK => ?_
    | refine AW_block ?_
    | ((first
      | refine AW_region_draw (id := 4) E0 (fun f => [].contains f) dLDL0 dADL0 mixed (by kernel_rfl) ?_
      | refine AW_region_draw (id := 20) E0 (fun f => [].contains f) dLDL1 dADL1 mixed (by kernel_rfl) ?_
      | refine AW_region_draw (id := 21) E0 (fun f => [].contains f) dLDL2 dADL2 mixed (by kernel_rfl) ?_
      | refine AW_region E0 ?_ | refine AW_ret ?_ | refine AW_exit ?_ | refine AW_skip ?_ | unfold retQ); try simp only [push_cast, seval, *])
    | ((first | (apply AW_cond; (case hc => (simp only [push_cast, seval]; rfl))) | (apply ER_guard; (case hb => (simp only [push_cast, seval]; rfl)))); all_goals ((intro hc; first | (exfalso; simp only [push_cast, seval, *] at hc; done) | (exact absurd hc (by decide)) | ((try first | rw [Bool.not_true] at hc | rw [Bool.not_false] at hc); first | (with_reducible replace hc := tTT hc); clear hc | (with_reducible replace hc := tFF hc); clear hc | (have hp := hc; try simp only [decide_eq_true_eq, decide_eq_false_iff_not, bA, bB, bC, bD, bE, bF, bG, bH] at hp))) <;> try simp only [push_cast, seval, *]))
    | (refine Kn.go hK ?_; clear hK K)
    | refine Kn.go (by assumption) ?_
    | (intro n hn; (try simp only [upd_none2, join_none_iff, ite_none, ne_eq] at hn); (try simp only [push_cast, seval, *]))
    | (intro hc)
    | (apply ER_blk; (case hp => rfl); (case hb => (simp only [push_cast, seval]; rfl)); (case hd => (simp only [push_cast, seval]; done)); (case h => (intro hc; simp only [push_cast, seval, *]; rfl)); simp only [push_cast, seval, *])
    | fail)
  refine does_call rfl rfl ?_
  simp only [push_cast, seval, *]
  refine ACall.mono (unhid hcp G) ?_
  rintro _ A ⟨x1, x2, x3, rfl, ho⟩
  have k2 := (OwnF_loc _ _ _ _).get ho g2
  obtain ⟨⟨u1, u2, u3⟩, w1, w2, w3⟩ := OwnF_cs ho
  have ho2 := (OwnF_loc _ _ _ _).turn ho g2 (.r 47 3 1 [[x1, x2, x3]])
  replace ho2 := Lib.hid ho2
  clear ho hcp
  (try simp only [push_cast, seval, *])
  repeat' (first
    | refine AW_seq_kn fun K hK => ?_
    | refine AW_block ?_
    | ((first
      | refine AW_region_draw (id := 4) E0 (fun f => [].contains f) dLDL0 dADL0 mixed (by kernel_rfl) ?_
      | refine AW_region_draw (id := 20) E0 (fun f => [].contains f) dLDL1 dADL1 mixed (by kernel_rfl) ?_
      | refine AW_region_draw (id := 21) E0 (fun f => [].contains f) dLDL2 dADL2 mixed (by kernel_rfl) ?_
      | refine AW_region E0 ?_ | refine AW_ret ?_ | refine AW_exit ?_ | refine AW_skip ?_ | unfold retQ); try simp only [push_cast, seval, *])
    | ((first | (apply AW_cond; (case hc => (simp only [push_cast, seval]; rfl))) | (apply ER_guard; (case hb => (simp only [push_cast, seval]; rfl)))); all_goals ((intro hc; first | (exfalso; simp only [push_cast, seval, *] at hc; done) | (exact absurd hc (by decide)) | ((try first | rw [Bool.not_true] at hc | rw [Bool.not_false] at hc); first | (with_reducible replace hc := tTT hc); clear hc | (with_reducible replace hc := tFF hc); clear hc | (have hp := hc; try simp only [decide_eq_true_eq, decide_eq_false_iff_not, bA, bB, bC, bD, bE, bF, bG, bH] at hp))) <;> try simp only [push_cast, seval, *]))
    | (refine Kn.go hK ?_; clear hK K)
    | refine Kn.go (by assumption) ?_
    | (intro n hn; (try simp only [upd_none2, join_none_iff, ite_none, ne_eq] at hn); (try simp only [push_cast, seval, *]))
    | (intro hc)
    | (apply ER_blk; (case hp => rfl); (case hb => (simp only [push_cast, seval]; rfl)); (case hd => (simp only [push_cast, seval]; done)); (case h => (intro hc; simp only [push_cast, seval, *]; rfl)); simp only [push_cast, seval, *])
    | fail)
  suffices hcap : (∀ n cap, x1 = .s n 5 0 (a.map Tx.av).length cap → (a.map Tx.av).length ≤ cap) → _ by
    obtain ⟨A1, o1, -⟩ := unhid ho2
    simp only at o1
    rcases o1.split with ⟨ad, e, -, -⟩ | ⟨np, cap, e, e2, -⟩
    · exact hcap fun n cap h => by rw [e] at h; cases h
    · refine AW_blkcap (n := np) (cap := cap) (sz := 5) (ty := 86) (rows := a.map Tx.av) (by rw [e2, upd_same]) fun hc => hcap fun n cap' h => ?_
      rw [e] at h
      cases h
      exact hc
  intro hcap
  have ho3 := OwnC_of (unhid ho2) hcap
  replace ho3 := Lib.hid ho3
  clear ho2 hcap
  have hE22 := tE22
  have hS26 := tS26
  have hB26 := tB26
  have hZ26 := tZ26
  have hE45 := tE45
  have hS36 := tS36
  have hB36 := tB36
  have hZ36 := tZ36
  have hE44 := tE44
  have hS86 := tS86
  have hB86 := tB86
  have hZ86 := tZ86
  refine AW_loopX (σ := AV × AV × AV × Heap) names.length (fun k s => OwnC s.1 s.2.1 s.2.2.1 ((names.take k).foldl com1 ⟨a, b, c⟩) s.2.2.2 (upd G n2 (.r 47 3 1 [[s.1, s.2.1, s.2.2.1]]))) (fun k s => [(2, .p n2 3 0 0), (4, .p n4 3 0 0), (52, .l 3 (names.map Nm.av)), (53, ci names.length), (54, ci k)]) (fun _ s => s.2.2.2) (x1, x2, x3, upd A n2 (.r 47 3 1 [[x1, x2, x3]])) (unhid ho3) ?_ ?_ ?_ ?_
  · (first | trivial | (simp only [push_cast, seval, *]; done))
  · exact Heap.le_refl _
  · clear k2 u1 u2 u3 w1 w2 w3 ho3 o2 o4
    clear A x1 x2 x3
    rintro k ⟨x1, x2, x3, S⟩ hk ho
    simp only at ho ⊢
    have hv := List.getElem?_eq_getElem (l := names) hk; generalize names[k] = v at hv; have hvm := List.mem_of_getElem? hv; have hkl : (k : Int) < names.length := (by omega); have hkw : IntKind.i64.wrap ((k : Int) + 1) = (k : Int) + 1 := wrap_i64 (by omega) (by omega)
    have hLW := comk_lw (names.take k) _ (unhid hW)
    have hdl := comk_len (names.take k) ⟨a, b, c⟩
    rw [List.length_take] at hdl
    have hsn : (names.take (k + 1)).foldl com1 ⟨a, b, c⟩ = com1 ((names.take k).foldl com1 ⟨a, b, c⟩) v := by rw [take_snoc hv, List.foldl_append]; rfl
    simp only at hdl
    generalize (names.take (k + 1)).foldl com1 ⟨a, b, c⟩ = L2 at *
    generalize (names.take k).foldl com1 ⟨a, b, c⟩ = L at *
    have hfd := find_p L (by have := hLW.t24; unfold maxLen; omega) v
    rw [fd_at hLW.rise v] at hfd
    have hln : ∀ M, Heap.le S M → Lent M (gl x1 x2 x3) (.g L.av) := fun M hM => (OwnC_lent ho).mono hM
    have htr := fun h => at_true (l := L.txs) (v := v) h
    have hlog : L.log.length ≤ 400 := by have := hLW.size; unfold sizeS at this; omega
    have hrs : ∀ t ∈ L.txs, t.rs.length ≤ 400 := fun t ht => by have h1 := hLW.size; unfold sizeS at h1; have := rec_bd ht; omega
    have ht24 := hLW.t24
    have c2 := (OwnC_loc _ _ _ _).get ho (upd_same _ n2 _)
    obtain ⟨⟨u1, u2, u3⟩, w1, w2, w3, -⟩ := OwnC_cs ho
    have q2 := ne_old c2
    have hfind : ∀ nn : Nat, S nn = none → ACall Try.prog 105 [.g [x1, x2, x3], .g [.c (.int .i64 v.s), .c (.int .i64 v.a), .c (.int .i64 v.n)]] (upd S nn (.r 26 3 1 [[.c (.int .i64 v.s), .c (.int .i64 v.a), .c (.int .i64 v.n)]])) fun r H' => r = .c (.int .i64 (if atB L.txs v = true then (atI L.txs v : Int) else -1)) ∧ H' = upd S nn (.r 26 3 1 [[.c (.int .i64 v.s), .c (.int .i64 v.a), .c (.int .i64 v.n)]]) := fun nn hnn =>
      ACall.lend (args' := [.g L.av, .g (Nm.av v)]) (Flat.c _) (show Lent _ _ _ ∧ Lent _ _ _ ∧ True from ⟨hln _ (le_upd_new hnn), Lent.refl _ _, trivial⟩) hfd.cl
    replace hfind := Lib.hid hfind
    replace hrs := Lib.hid hrs
    clear hfd hln hvm
    cases hB : atB L.txs v
    · have hno := com1_no hB
      have hff := fun nn hnn => unhid hfind nn hnn
      rw [hB] at hff
      simp only [Bool.false_eq_true, if_false] at hff
      obtain ⟨v1, v2, v3⟩ := v
      have hvv : Nm.av ⟨v1, v2, v3⟩ = [.c (.int .i64 v1), .c (.int .i64 v2), .c (.int .i64 v3)] := rfl
      simp only at hff
      rw [hno] at hsn
      subst hsn
      replace ho := Lib.hid ho
      clear hfind hrs htr hno hB hLW
      repeat' (first
    | refine AW_seq_kn fun K hK => ?_
    | refine AW_block ?_
    | (refine does_call rfl rfl ?_; simp only [push_cast, seval, *]; refine ACall.monoP (hff _ (by assumption)) ?_; (try simp only [push_cast, seval, *]))
    | ((first
      | refine AW_region_draw (id := 4) E0 (fun f => [].contains f) dLDL0 dADL0 mixed (by kernel_rfl) ?_
      | refine AW_region_draw (id := 20) E0 (fun f => [].contains f) dLDL1 dADL1 mixed (by kernel_rfl) ?_
      | refine AW_region_draw (id := 21) E0 (fun f => [].contains f) dLDL2 dADL2 mixed (by kernel_rfl) ?_
      | refine AW_region E0 ?_ | refine AW_ret ?_ | refine AW_exit ?_ | refine AW_skip ?_ | unfold retQ); try simp only [push_cast, seval, *])
    | ((first | (apply AW_cond; (case hc => (simp only [push_cast, seval]; rfl))) | (apply ER_guard; (case hb => (simp only [push_cast, seval]; rfl)))); all_goals ((intro hc; first | (exfalso; simp only [push_cast, seval, *] at hc; done) | (exact absurd hc (by decide)) | ((try first | rw [Bool.not_true] at hc | rw [Bool.not_false] at hc); first | (with_reducible replace hc := tTT hc); clear hc | (with_reducible replace hc := tFF hc); clear hc | (have hp := hc; try simp only [decide_eq_true_eq, decide_eq_false_iff_not, bA, bB, bC, bD, bE, bF, bG, bH] at hp))) <;> try simp only [push_cast, seval, *]))
    | (refine Kn.go hK ?_; clear hK K)
    | refine Kn.go (by assumption) ?_
    | (intro n hn; (try simp only [upd_none2, join_none_iff, ite_none, ne_eq] at hn); (try simp only [push_cast, seval, *]))
    | (intro hc)
    | (apply ER_blk; (case hp => rfl); (case hb => (simp only [push_cast, seval]; rfl)); (case hd => (simp only [push_cast, seval]; done)); (case h => (intro hc; simp only [push_cast, seval, *]; rfl)); simp only [push_cast, seval, *])
    | fail)
      exact ⟨(x1, x2, x3, S), unhid ho, by (first | trivial | (simp only [push_cast, seval, *]; done)), by first | trivial | (repeat' (first | exact Heap.le_refl _ | refine hle_upd2 ?_ _ _ | (refine Heap.le_new ?_ ?_; rotate_left 1; focus (first | assumption | (simp only [upd_none2, upd_get, ne_eq, push_cast, seval, *]; done) | (simp [upd_get, *]; done)))))⟩
    obtain ⟨t, ht, htn⟩ := htr hB
    have hyes := com1_yes hB ht
    have hff := fun nn hnn => unhid hfind nn hnn
    rw [hB] at hff
    simp only [if_true] at hff
    have hrt := unhid hrs t (List.mem_of_getElem? ht)
    generalize atI L.txs v = i at *
    have hii := (List.getElem?_eq_some_iff.1 ht).1
    obtain ⟨a', b', c'⟩ := L
    simp only at ht hyes hrt hii hdl hlog ht24
    rw [hyes] at hsn
    have hnegi : ¬ (i : Int) < 0 := by omega
    have hposi : (0 : Int) ≤ i := by omega
    have hili : (i : Int) < a'.length := by omega
    have hi1w : IntKind.i64.wrap ((i : Int) + 1) = (i : Int) + 1 := wrap_i64 (by omega) (by omega)
    have hxn0 : ∀ x : Nm, Nm.av x = [.c (.int .i64 x.s), .c (.int .i64 x.a), .c (.int .i64 x.n)] := fun _ => rfl
    obtain ⟨v1, v2, v3⟩ := v
    have hvv : Nm.av ⟨v1, v2, v3⟩ = [.c (.int .i64 v1), .c (.int .i64 v2), .c (.int .i64 v3)] := rfl
    simp only at hff
    replace ho := Lib.hid ho
    clear hfind hrs htr hyes hB hLW
    repeat' (first
    | (refine AW_atR (id := 20) ?_)
    | refine AW_seq_kn fun K hK => ?_
    | refine AW_block ?_
    | (refine does_call rfl rfl ?_; simp only [push_cast, seval, *]; refine ACall.monoP (hff _ (by assumption)) ?_; (try simp only [push_cast, seval, *]))
    | ((first
      | refine AW_region_draw (id := 4) E0 (fun f => [].contains f) dLDL0 dADL0 mixed (by kernel_rfl) ?_
      | refine AW_region_draw (id := 20) E0 (fun f => [].contains f) dLDL1 dADL1 mixed (by kernel_rfl) ?_
      | refine AW_region_draw (id := 21) E0 (fun f => [].contains f) dLDL2 dADL2 mixed (by kernel_rfl) ?_
      | refine AW_region E0 ?_ | refine AW_ret ?_ | refine AW_exit ?_ | refine AW_skip ?_ | unfold retQ); try simp only [push_cast, seval, *])
    | ((first | (apply AW_cond; (case hc => (simp only [push_cast, seval]; rfl))) | (apply ER_guard; (case hb => (simp only [push_cast, seval]; rfl)))); all_goals ((intro hc; first | (exfalso; simp only [push_cast, seval, *] at hc; done) | (exact absurd hc (by decide)) | ((try first | rw [Bool.not_true] at hc | rw [Bool.not_false] at hc); first | (with_reducible replace hc := tTT hc); clear hc | (with_reducible replace hc := tFF hc); clear hc | (have hp := hc; try simp only [decide_eq_true_eq, decide_eq_false_iff_not, bA, bB, bC, bD, bE, bF, bG, bH] at hp))) <;> try simp only [push_cast, seval, *]))
    | (refine Kn.go hK ?_; clear hK K)
    | refine Kn.go (by assumption) ?_
    | (intro n hn; (try simp only [upd_none2, join_none_iff, ite_none, ne_eq] at hn); (try simp only [push_cast, seval, *]))
    | (intro hc)
    | (apply ER_blk; (case hp => rfl); (case hb => (simp only [push_cast, seval]; rfl)); (case hd => (simp only [push_cast, seval]; done)); (case h => (intro hc; simp only [push_cast, seval, *]; rfl)); simp only [push_cast, seval, *])
    | fail)
    refine ⟨?_⟩
    generalize n = n12 at *
    obtain ⟨b12, hb12⟩ : ∃ b12 : Blk, b12 = .r 26 3 1 [[.c (.int .i64 v1), .c (.int .i64 v2), .c (.int .i64 v3)]] := ⟨_, rfl⟩
    rw [← hb12]
    have hC1 := (OwnC_loc _ _ _ _).new (unhid ho) hn b12
    have h122 : ¬ n12 = n2 := of_eq_false (q2 n12 hn).2
    have h212 : ¬ n2 = n12 := of_eq_false (q2 n12 hn).1
    have hG12 : G n12 = none := by have := (OwnC_loc _ _ _ _).old (unhid ho) hn; rwa [upd_ne h122] at this
    obtain ⟨S1, hS1⟩ : ∃ S1, S1 = upd S n12 b12 := ⟨_, rfl⟩
    rw [← hS1] at hC1 ⊢
    obtain ⟨Gb, hGb⟩ : ∃ Gb, Gb = upd (upd G n2 (.r 47 3 1 [[x1, x2, x3]])) n12 b12 := ⟨_, rfl⟩
    rw [← hGb] at hC1
    have f2 : Gb n2 = some (.r 47 3 1 [[x1, x2, x3]]) := by rw [hGb, upd_ne h212, upd_same]
    have f12 : Gb n12 = some (.r 26 3 1 [[.c (.int .i64 v1), .c (.int .i64 v2), .c (.int .i64 v3)]]) := by rw [hGb, upd_same, hb12]
    obtain ⟨A1, o3, A2, o2, o1⟩ := hC1
    simp only at o3 o2 o1
    rcases o1 with ⟨-, e, -⟩ | ⟨np, cp, cap, rs, rfl, ⟨hrs, hrcp⟩, hrl, hnp, rfl⟩
    · rw [List.map_eq_nil_iff.1 e] at ht; simp at ht
    rw [List.length_map] at hrs hrl hrcp w1 u1 f2 hGb ⊢
    have hri : rs[i]? = some (Tx.av t) := by
      have : (rs.take a'.length)[i]? = some (Tx.av t) := by rw [hrs, List.getElem?_map, ht]; rfl
      rwa [List.getElem?_take, if_pos hii] at this
    have m2 : ¬ n2 = np := by rintro rfl; rw [hnp] at f2; cases f2
    have m12 : ¬ n12 = np := by rintro rfl; rw [hnp] at f12; cases f12
    have m2' : ¬ np = n2 := fun h => m2 h.symm
    have m12' : ¬ np = n12 := fun h => m12 h.symm
    have fa2 : upd Gb np (.r 86 5 cap rs) n2 = _ := (upd_ne m2).trans f2
    have fa12 : upd Gb np (.r 86 5 cap rs) n12 = _ := (upd_ne m12).trans f12
    have fanp := upd_same Gb np (.r 86 5 cap rs)
    have fb2 := (Loc.own _ _ _ _).get o2 fa2
    have fb12 := (Loc.own _ _ _ _).get o2 fa12
    have fbnp := (Loc.own _ _ _ _).get o2 fanp
    have fc2 := (Loc.own _ _ _ _).get o3 fb2
    have fc12 := (Loc.own _ _ _ _).get o3 fb12
    have fcnp := (Loc.own _ _ _ _).get o3 fbnp
    obtain ⟨⟨t1, t2, t3⟩, tst, trs⟩ := t
    have htv : Tx.av ⟨⟨t1, t2, t3⟩, tst, trs⟩ = [.c (.int .i64 t1), .c (.int .i64 t2), .c (.int .i64 t3), .c (.int .i64 tst), .l 3 (trs.map Rec.av)] := rfl
    rw [htv] at hri
    simp only at hrt hsn
    have hx1 : (i : Int) ≤ cp := by omega
    have hx2 : (0 : Int) ≤ i + 1 := by omega
    have hx3 : (i : Int) + 1 ≤ a'.length := by omega
    have hx4 : (a'.length : Int) ≤ cp := by omega
    have hx5 : ((i : Int) + 1).toNat = i + 1 := by omega
    replace hGb := Lib.hid hGb
    replace hb12 := Lib.hid hb12
    replace o3 := Lib.hid o3
    replace o2 := Lib.hid o2
    replace hrs := Lib.hid hrs
    replace hrl := Lib.hid hrl
    replace hnp := Lib.hid hnp
    replace hsn := Lib.hid hsn
    replace f2 := Lib.hid f2
    replace f12 := Lib.hid f12
    replace fa2 := Lib.hid fa2
    replace fa12 := Lib.hid fa12
    replace fanp := Lib.hid fanp
    replace fb2 := Lib.hid fb2
    replace fb12 := Lib.hid fb12
    replace fbnp := Lib.hid fbnp
    clear hS1 hff htn hxn0 ho hn c2 q2 htv ht hv
    repeat' (first
    | refine AW_seq_kn fun K hK => ?_
    | refine AW_block ?_
    | ((first
      | refine AW_region_draw (id := 4) E0 (fun f => [].contains f) dLDL0 dADL0 mixed (by kernel_rfl) ?_
      | refine AW_region_draw (id := 20) E0 (fun f => [].contains f) dLDL1 dADL1 mixed (by kernel_rfl) ?_
      | refine AW_region_draw (id := 21) E0 (fun f => [].contains f) dLDL2 dADL2 mixed (by kernel_rfl) ?_
      | refine AW_region E0 ?_ | refine AW_ret ?_ | refine AW_exit ?_ | refine AW_skip ?_ | unfold retQ); try simp only [push_cast, seval, *])
    | ((first | (apply AW_cond; (case hc => (simp only [push_cast, seval]; rfl))) | (apply ER_guard; (case hb => (simp only [push_cast, seval]; rfl)))); all_goals ((intro hc; first | (exfalso; simp only [push_cast, seval, *] at hc; done) | (exact absurd hc (by decide)) | ((try first | rw [Bool.not_true] at hc | rw [Bool.not_false] at hc); first | (with_reducible replace hc := tTT hc); clear hc | (with_reducible replace hc := tFF hc); clear hc | (have hp := hc; try simp only [decide_eq_true_eq, decide_eq_false_iff_not, bA, bB, bC, bD, bE, bF, bG, bH] at hp))) <;> try simp only [push_cast, seval, *]))
    | (refine Kn.go hK ?_; clear hK K)
    | refine Kn.go (by assumption) ?_
    | (intro n hn; (try simp only [upd_none2, join_none_iff, ite_none, ne_eq] at hn); (try simp only [push_cast, seval, *]))
    | (intro hc)
    | (apply ER_blk; (case hp => rfl); (case hb => (simp only [push_cast, seval]; rfl)); (case hd => (simp only [push_cast, seval]; done)); (case h => (intro hc; simp only [push_cast, seval, *]; rfl)); simp only [push_cast, seval, *])
    | fail)
    refine does_appL (news := trs.map Rec.av) rfl rfl rfl (unhid o3) hE45 hS36 hB36 hZ36 rfl (by decide) (by simp only [List.length_map, maxLen]; omega) (by simp only [List.length_map]; omega) ?_
    intro z3 S2 hz3
    rw [← List.map_append] at hz3
    have fd2 := hz3.get (unhid fb2)
    have fd12 := hz3.get (unhid fb12)
    have fdnp := hz3.get (unhid fbnp)
    have c3z := hz3.cs
    have w3z := hz3.one
    replace hz3 := Lib.hid hz3
    clear fc2 fc12 fcnp o3
    (try simp only [push_cast, seval, *])
    repeat' (first
    | refine AW_seq_kn fun K hK => ?_
    | refine AW_block ?_
    | ((first
      | refine AW_region_draw (id := 4) E0 (fun f => [].contains f) dLDL0 dADL0 mixed (by kernel_rfl) ?_
      | refine AW_region_draw (id := 20) E0 (fun f => [].contains f) dLDL1 dADL1 mixed (by kernel_rfl) ?_
      | refine AW_region_draw (id := 21) E0 (fun f => [].contains f) dLDL2 dADL2 mixed (by kernel_rfl) ?_
      | refine AW_region E0 ?_ | refine AW_ret ?_ | refine AW_exit ?_ | refine AW_skip ?_ | unfold retQ); try simp only [push_cast, seval, *])
    | ((first | (apply AW_cond; (case hc => (simp only [push_cast, seval]; rfl))) | (apply ER_guard; (case hb => (simp only [push_cast, seval]; rfl)))); all_goals ((intro hc; first | (exfalso; simp only [push_cast, seval, *] at hc; done) | (exact absurd hc (by decide)) | ((try first | rw [Bool.not_true] at hc | rw [Bool.not_false] at hc); first | (with_reducible replace hc := tTT hc); clear hc | (with_reducible replace hc := tFF hc); clear hc | (have hp := hc; try simp only [decide_eq_true_eq, decide_eq_false_iff_not, bA, bB, bC, bD, bE, bF, bG, bH] at hp))) <;> try simp only [push_cast, seval, *]))
    | (refine Kn.go hK ?_; clear hK K)
    | refine Kn.go (by assumption) ?_
    | (intro n hn; (try simp only [upd_none2, join_none_iff, ite_none, ne_eq] at hn); (try simp only [push_cast, seval, *]))
    | (intro hc)
    | (apply ER_blk; (case hp => rfl); (case hb => (simp only [push_cast, seval]; rfl)); (case hd => (simp only [push_cast, seval]; done)); (case h => (intro hc; simp only [push_cast, seval, *]; rfl)); simp only [push_cast, seval, *])
    | fail)
    obtain ⟨X, p1, p2⟩ := (Loc.own _ _ _ _).swap (Loc.own _ _ _ _) (unhid hz3) (unhid o2)
    refine does_app1 rfl rfl rfl rfl p1 (by simp only [upd_none2, push_cast, seval, *]) hE22 hS26 hB26 hZ26 rfl (by decide) (by simp only [List.length_map, maxLen]; omega) (by simp only [List.length_map]; omega) ?_
    intro z2 S3 hz2
    have hz2' : OwnL S3 z2 26 3 ((b' ++ [(⟨v1, v2, v3⟩ : Nm)]).map Nm.av) X := by rw [List.map_append]; exact hz2
    obtain ⟨Y, r3, r2⟩ := (Loc.own _ _ _ _).swap (Loc.own _ _ _ _) hz2' p2
    have ge2 := (Loc.own _ _ _ _).get r3 ((Loc.own _ _ _ _).get r2 (unhid fa2))
    have ge12 := (Loc.own _ _ _ _).get r3 ((Loc.own _ _ _ _).get r2 (unhid fa12))
    have genp := (Loc.own _ _ _ _).get r3 ((Loc.own _ _ _ _).get r2 (unhid fanp))
    have c2z := hz2.cs
    have w2z := hz2.one
    replace r3 := Lib.hid r3
    replace r2 := Lib.hid r2
    clear fd2 fd12 fdnp hz2 hz2' p1 p2 hz3 o2 fb2 fb12 fbnp
    (try simp only [push_cast, seval, *])
    repeat' (first
    | refine AW_seq_kn fun K hK => ?_
    | refine AW_block ?_
    | ((first
      | refine AW_region_draw (id := 4) E0 (fun f => [].contains f) dLDL0 dADL0 mixed (by kernel_rfl) ?_
      | refine AW_region_draw (id := 20) E0 (fun f => [].contains f) dLDL1 dADL1 mixed (by kernel_rfl) ?_
      | refine AW_region_draw (id := 21) E0 (fun f => [].contains f) dLDL2 dADL2 mixed (by kernel_rfl) ?_
      | refine AW_region E0 ?_ | refine AW_ret ?_ | refine AW_exit ?_ | refine AW_skip ?_ | unfold retQ); try simp only [push_cast, seval, *])
    | ((first | (apply AW_cond; (case hc => (simp only [push_cast, seval]; rfl))) | (apply ER_guard; (case hb => (simp only [push_cast, seval]; rfl)))); all_goals ((intro hc; first | (exfalso; simp only [push_cast, seval, *] at hc; done) | (exact absurd hc (by decide)) | ((try first | rw [Bool.not_true] at hc | rw [Bool.not_false] at hc); first | (with_reducible replace hc := tTT hc); clear hc | (with_reducible replace hc := tFF hc); clear hc | (have hp := hc; try simp only [decide_eq_true_eq, decide_eq_false_iff_not, bA, bB, bC, bD, bE, bF, bG, bH] at hp))) <;> try simp only [push_cast, seval, *]))
    | (refine Kn.go hK ?_; clear hK K)
    | refine Kn.go (by assumption) ?_
    | (intro n hn; (try simp only [upd_none2, join_none_iff, ite_none, ne_eq] at hn); (try simp only [push_cast, seval, *]))
    | (intro hc)
    | (apply ER_blk; (case hp => rfl); (case hb => (simp only [push_cast, seval]; rfl)); (case hd => (simp only [push_cast, seval]; done)); (case h => (intro hc; simp only [push_cast, seval, *]; rfl)); simp only [push_cast, seval, *])
    | fail)
    refine does_appCut (n := np) (sz := 5) (i := i) (c := i) (j := i + 1) (m := a'.length - (i + 1)) (c2 := cp - (i + 1)) (cap := cap) (rows := rs) rfl (by simp only [push_cast, seval, *]) (by simp only [push_cast, seval, *]) (by simp only [push_cast, seval, upd_get, *]) (by have := unhid hrl; omega) (by have := unhid hrl; omega) (by omega) hE44 hS86 hB86 hZ86 rfl (by decide) (by unfold maxLen; omega) (by omega) (fun hm => ?_) (fun hm q GC hqn hq1 hq2 => ?_)
    · have hi1 : i + 1 = a'.length := by omega
      have hdr : a'.drop (i + 1) = [] := List.drop_of_length_le (by omega)
      obtain ⟨c', hc'⟩ : ∃ c' : Blk, c' = .r 47 3 1 [[.s np 5 0 i i, z2, z3]] := ⟨_, rfl⟩
      have y2 := (Loc.own _ _ _ _).get (unhid r2) (unhid fa2)
      have t3 := (Loc.own _ _ _ _).turn (unhid r3) y2 c'
      have t2 := (Loc.own _ _ _ _).turn (unhid r2) (unhid fa2) c'
      rw [upd_comm m2'] at t2
      have hrt : rs.take i = (a'.take i).map Tx.av := by
        have := congrArg (List.take i) (unhid hrs)
        rwa [List.take_take, Nat.min_eq_left (by omega), ← List.map_take] at this
      have hlr : ((a'.take i ++ a'.drop (i + 1)).map Tx.av).length = i := by rw [hdr]; simp; omega
      have tB : OwnB (.s np 5 0 i i) 86 5 ((a'.take i ++ a'.drop (i + 1)).map Tx.av) (upd (upd Gb n2 c') np (.r 86 5 cap rs)) (upd Gb n2 c') :=
        .inr ⟨np, i, cap, rs, by rw [hlr], ⟨by rw [hlr, hrt, hdr, List.append_nil], by rw [hlr]; exact Nat.le_refl _⟩, by rw [hlr]; have := unhid hrl; omega, by rw [upd_ne m2']; exact unhid hnp, rfl⟩
      have tC : OwnC (.s np 5 0 i i) z2 z3 L2 (upd S3 n2 c') (upd Gb n2 c') := by
        rw [unhid hsn]; exact ⟨_, t3, _, t2, tB⟩
      obtain ⟨S4, v1, v2⟩ := (OwnC_loc _ _ _ _).cut tC (K := upd G n2 c') (by rw [unhid hGb]; exact le_turnB h122 hG12)
      rw [hc'] at v2
      replace v1 := Lib.hid v1
      replace v2 := Lib.hid v2
      replace hc' := Lib.hid hc'
      clear hm hi1 hdr tC tB t2 t3 hrt hlr y2
      (try simp only [push_cast, seval, *])
      repeat' (first
    | refine AW_seq_kn fun K hK => ?_
    | refine AW_block ?_
    | ((first
      | refine AW_region_draw (id := 4) E0 (fun f => [].contains f) dLDL0 dADL0 mixed (by kernel_rfl) ?_
      | refine AW_region_draw (id := 20) E0 (fun f => [].contains f) dLDL1 dADL1 mixed (by kernel_rfl) ?_
      | refine AW_region_draw (id := 21) E0 (fun f => [].contains f) dLDL2 dADL2 mixed (by kernel_rfl) ?_
      | refine AW_region E0 ?_ | refine AW_ret ?_ | refine AW_exit ?_ | refine AW_skip ?_ | unfold retQ); try simp only [push_cast, seval, *])
    | ((first | (apply AW_cond; (case hc => (simp only [push_cast, seval]; rfl))) | (apply ER_guard; (case hb => (simp only [push_cast, seval]; rfl)))); all_goals ((intro hc; first | (exfalso; simp only [push_cast, seval, *] at hc; done) | (exact absurd hc (by decide)) | ((try first | rw [Bool.not_true] at hc | rw [Bool.not_false] at hc); first | (with_reducible replace hc := tTT hc); clear hc | (with_reducible replace hc := tFF hc); clear hc | (have hp := hc; try simp only [decide_eq_true_eq, decide_eq_false_iff_not, bA, bB, bC, bD, bE, bF, bG, bH] at hp))) <;> try simp only [push_cast, seval, *]))
    | (refine Kn.go hK ?_; clear hK K)
    | refine Kn.go (by assumption) ?_
    | (intro n hn; (try simp only [upd_none2, join_none_iff, ite_none, ne_eq] at hn); (try simp only [push_cast, seval, *]))
    | (intro hc)
    | (apply ER_blk; (case hp => rfl); (case hb => (simp only [push_cast, seval]; rfl)); (case hd => (simp only [push_cast, seval]; done)); (case h => (intro hc; simp only [push_cast, seval, *]; rfl)); simp only [push_cast, seval, *])
    | fail)
      exact ⟨(.s np 5 0 i i, z2, z3, S4), unhid v2, by (first | trivial | (simp only [push_cast, seval, *]; done)), by rw [← unhid hc']; exact unhid v1⟩
    · obtain ⟨m, hmm⟩ : ∃ m, m = a'.length - (i + 1) := ⟨_, rfl⟩
      rw [← hmm] at hm hq1 ⊢
      obtain ⟨bq, hbq⟩ : ∃ bq : Blk, bq = .r 86 5 GC (rs.take i ++ (rs.drop (i + 1)).take m) := ⟨_, rfl⟩
      rw [← hbq]
      have hq2n : ¬ q = n2 := fun h => by rw [h, upd_same] at hqn; cases hqn
      have hn2q : ¬ n2 = q := fun h => hq2n h.symm
      have hS3q : S3 q = none := by rwa [upd_ne hq2n] at hqn
      obtain ⟨c', hc'⟩ : ∃ c' : Blk, c' = .r 47 3 1 [[.s q 5 0 (i + m) GC, z2, z3]] := ⟨_, rfl⟩
      have y2 := (Loc.own _ _ _ _).get (unhid r2) (unhid fa2)
      have t3 := (Loc.own _ _ _ _).turn (unhid r3) y2 c'
      have t2 := (Loc.own _ _ _ _).turn (unhid r2) (unhid fa2) c'
      have s3 := (Loc.own _ _ _ _).new t3 (show upd S3 n2 c' q = none by rw [upd_ne hq2n]; exact hS3q) bq
      have yq := (Loc.own _ _ _ _).old t3 (show upd S3 n2 c' q = none by rw [upd_ne hq2n]; exact hS3q)
      have s2 := (Loc.own _ _ _ _).new t2 yq bq
      have aq := (Loc.own _ _ _ _).old t2 yq
      have hrt : rs.take i = (a'.take i).map Tx.av := by
        have := congrArg (List.take i) (unhid hrs)
        rwa [List.take_take, Nat.min_eq_left (by omega), ← List.map_take] at this
      have hrd : (rs.drop (i + 1)).take m = (a'.drop (i + 1)).map Tx.av := by
        have := congrArg (List.drop (i + 1)) (unhid hrs)
        rw [← List.map_drop] at this
        rw [← this, List.drop_take, hmm]
      have hlr : ((a'.take i ++ a'.drop (i + 1)).map Tx.av).length = i + m := by simp; omega
      have hls : (rs.take i ++ (rs.drop (i + 1)).take m) = (a'.take i ++ a'.drop (i + 1)).map Tx.av := by rw [hrt, hrd, List.map_append]
      have tB : OwnB (.s q 5 0 (i + m) GC) 86 5 ((a'.take i ++ a'.drop (i + 1)).map Tx.av) (upd (upd (upd Gb np (.r 86 5 cap rs)) n2 c') q bq) (upd (upd Gb np (.r 86 5 cap rs)) n2 c') :=
        .inr ⟨q, GC, GC, _, by rw [hlr], ⟨List.take_length, by rw [hlr]; exact hq1⟩, Nat.le_refl _, aq, by rw [hbq, hls]⟩
      have tC : OwnC (.s q 5 0 (i + m) GC) z2 z3 L2 (upd (upd S3 n2 c') q bq) (upd (upd Gb np (.r 86 5 cap rs)) n2 c') := by
        rw [unhid hsn]; exact ⟨_, s3, _, s2, tB⟩
      obtain ⟨S4, v1, v2⟩ := (OwnC_loc _ _ _ _).cut tC (K := upd G n2 c') (Heap.le_trans (show Heap.le (upd G n2 c') (upd Gb n2 c') by rw [unhid hGb]; exact le_turnB h122 hG12) (by rw [upd_comm m2']; exact le_upd_new (by rw [upd_ne m2']; exact unhid hnp)))
      rw [hc'] at v2
      have v3 : upd (upd (upd S3 n2 (.r 47 3 1 [[.s np 5 0 a'.length cp, z2, z3]])) q bq) n2 c' = upd (upd S3 n2 c') q bq := by rw [upd_comm hq2n, upd_upd]
      replace v1 := Lib.hid v1
      replace v2 := Lib.hid v2
      replace v3 := Lib.hid v3
      replace hc' := Lib.hid hc'
      replace hmm := Lib.hid hmm
      replace hbq := Lib.hid hbq
      clear hm tC tB s2 s3 t2 t3 hrt hrd hlr hls y2 yq aq hqn
      (try simp only [push_cast, seval, *])
      repeat' (first
    | refine AW_seq_kn fun K hK => ?_
    | refine AW_block ?_
    | ((first
      | refine AW_region_draw (id := 4) E0 (fun f => [].contains f) dLDL0 dADL0 mixed (by kernel_rfl) ?_
      | refine AW_region_draw (id := 20) E0 (fun f => [].contains f) dLDL1 dADL1 mixed (by kernel_rfl) ?_
      | refine AW_region_draw (id := 21) E0 (fun f => [].contains f) dLDL2 dADL2 mixed (by kernel_rfl) ?_
      | refine AW_region E0 ?_ | refine AW_ret ?_ | refine AW_exit ?_ | refine AW_skip ?_ | unfold retQ); try simp only [push_cast, seval, *])
    | ((first | (apply AW_cond; (case hc => (simp only [push_cast, seval]; rfl))) | (apply ER_guard; (case hb => (simp only [push_cast, seval]; rfl)))); all_goals ((intro hc; first | (exfalso; simp only [push_cast, seval, *] at hc; done) | (exact absurd hc (by decide)) | ((try first | rw [Bool.not_true] at hc | rw [Bool.not_false] at hc); first | (with_reducible replace hc := tTT hc); clear hc | (with_reducible replace hc := tFF hc); clear hc | (have hp := hc; try simp only [decide_eq_true_eq, decide_eq_false_iff_not, bA, bB, bC, bD, bE, bF, bG, bH] at hp))) <;> try simp only [push_cast, seval, *]))
    | (refine Kn.go hK ?_; clear hK K)
    | refine Kn.go (by assumption) ?_
    | (intro n hn; (try simp only [upd_none2, join_none_iff, ite_none, ne_eq] at hn); (try simp only [push_cast, seval, *]))
    | (intro hc)
    | (apply ER_blk; (case hp => rfl); (case hb => (simp only [push_cast, seval]; rfl)); (case hd => (simp only [push_cast, seval]; done)); (case h => (intro hc; simp only [push_cast, seval, *]; rfl)); simp only [push_cast, seval, *])
    | fail)
      exact ⟨(.s q 5 0 (i + m) GC, z2, z3, S4), unhid v2, by (first | trivial | (simp only [push_cast, seval, *]; done)), by rw [← unhid hc', unhid v3]; exact unhid v1⟩
  · clear k2 u1 u2 u3 w1 w2 w3 ho3 o2 o4
    clear A x1 x2 x3
    rintro ⟨x1, x2, x3, S⟩ ho
    simp only [List.take_length] at ho ⊢
    rw [← unhid hC] at ho
    have hdl := comk_len names ⟨a, b, c⟩
    rw [← unhid hC] at hdl
    simp only at hdl
    have c2 := (OwnC_loc _ _ _ _).get ho (upd_same _ n2 _)
    have c4 := (OwnC_loc _ _ _ _).get ho (show _ = some (.r 47 3 1 [zL]) by rw [upd_ne n42]; exact g4)
    obtain ⟨⟨u1, u2, u3⟩, w1, w2, w3, wl⟩ := OwnC_cs ho
    have hle2 : Heap.le H S := Heap.le_trans (le_skip (unhid hle) e2) ((OwnC_loc _ _ _ _).le ho)
    obtain ⟨S2, v1, v2, v3⟩ := (OwnC_loc _ _ _ _).cutx ho (le_skip (unhid hle) e2)
    have v4 := v3 n4 (by rw [upd_ne n42, g4]; simp) e4
    have v5 := v3 n2 (by rw [upd_same]; simp) e2
    have hE4 := unhid hE3
    obtain ⟨D, hD⟩ : ∃ D, D = CL.done.length := ⟨_, rfl⟩
    rw [← hD] at hE4 wl hdl
    have hcm2 := unhid hcm
    replace hD := Lib.hid hD
    replace v1 := Lib.hid v1
    replace v2 := Lib.hid v2
    replace v4 := Lib.hid v4
    replace v5 := Lib.hid v5
    clear ho v3 hE3 hcm
    by_cases h3 : 300 < D
    · rw [if_pos h3] at hE4
      have hcz := hcm2 (by omega)
      subst hE4
      have h3I : (300 : Int) < D := by omega
      replace hcz := Lib.hid hcz
      replace h3 := Lib.hid h3
      clear hcm2
      repeat' (first
    | refine AW_seq_kn fun K hK => ?_
    | refine AW_block ?_
    | ((first
      | refine AW_region_draw (id := 4) E0 (fun f => [].contains f) dLDL0 dADL0 mixed (by kernel_rfl) ?_
      | refine AW_region_draw (id := 20) E0 (fun f => [].contains f) dLDL1 dADL1 mixed (by kernel_rfl) ?_
      | refine AW_region_draw (id := 21) E0 (fun f => [].contains f) dLDL2 dADL2 mixed (by kernel_rfl) ?_
      | refine AW_region E0 ?_ | refine AW_ret ?_ | refine AW_exit ?_ | refine AW_skip ?_ | unfold retQ); try simp only [push_cast, seval, *])
    | ((first | (apply AW_cond; (case hc => (simp only [push_cast, seval]; rfl))) | (apply ER_guard; (case hb => (simp only [push_cast, seval]; rfl)))); all_goals ((intro hc; first | (exfalso; simp only [push_cast, seval, *] at hc; done) | (exact absurd hc (by decide)) | ((try first | rw [Bool.not_true] at hc | rw [Bool.not_false] at hc); first | (with_reducible replace hc := tTT hc); clear hc | (with_reducible replace hc := tFF hc); clear hc | (have hp := hc; try simp only [decide_eq_true_eq, decide_eq_false_iff_not, bA, bB, bC, bD, bE, bF, bG, bH] at hp))) <;> try simp only [push_cast, seval, *]))
    | (refine Kn.go hK ?_; clear hK K)
    | refine Kn.go (by assumption) ?_
    | (intro n hn; (try simp only [upd_none2, join_none_iff, ite_none, ne_eq] at hn); (try simp only [push_cast, seval, *]))
    | (intro hc)
    | (apply ER_blk; (case hp => rfl); (case hb => (simp only [push_cast, seval]; rfl)); (case hd => (simp only [push_cast, seval]; done)); (case h => (intro hc; simp only [push_cast, seval, *]; rfl)); simp only [push_cast, seval, *])
    | fail)
      exact ⟨_, H, Weak.trans (Weak.less (H' := H) (le_skip hle2 e4)) (zero_weak H 6), by first | rfl | (rw [unhid hcz]; rfl) | rw [unhid hcz], rfl⟩
    · rw [if_neg h3] at hE4
      subst hE4
      have h3I : ¬ (300 : Int) < D := by omega
      replace h3 := Lib.hid h3
      clear hcm2
      repeat' (first
    | refine AW_seq_kn fun K hK => ?_
    | refine AW_block ?_
    | ((first
      | refine AW_region_draw (id := 4) E0 (fun f => [].contains f) dLDL0 dADL0 mixed (by kernel_rfl) ?_
      | refine AW_region_draw (id := 20) E0 (fun f => [].contains f) dLDL1 dADL1 mixed (by kernel_rfl) ?_
      | refine AW_region_draw (id := 21) E0 (fun f => [].contains f) dLDL2 dADL2 mixed (by kernel_rfl) ?_
      | refine AW_region E0 ?_ | refine AW_ret ?_ | refine AW_exit ?_ | refine AW_skip ?_ | unfold retQ); try simp only [push_cast, seval, *])
    | ((first | (apply AW_cond; (case hc => (simp only [push_cast, seval]; rfl))) | (apply ER_guard; (case hb => (simp only [push_cast, seval]; rfl)))); all_goals ((intro hc; first | (exfalso; simp only [push_cast, seval, *] at hc; done) | (exact absurd hc (by decide)) | ((try first | rw [Bool.not_true] at hc | rw [Bool.not_false] at hc); first | (with_reducible replace hc := tTT hc); clear hc | (with_reducible replace hc := tFF hc); clear hc | (have hp := hc; try simp only [decide_eq_true_eq, decide_eq_false_iff_not, bA, bB, bC, bD, bE, bF, bG, bH] at hp))) <;> try simp only [push_cast, seval, *]))
    | (refine Kn.go hK ?_; clear hK K)
    | refine Kn.go (by assumption) ?_
    | (intro n hn; (try simp only [upd_none2, join_none_iff, ite_none, ne_eq] at hn); (try simp only [push_cast, seval, *]))
    | (intro hc)
    | (apply ER_blk; (case hp => rfl); (case hb => (simp only [push_cast, seval]; rfl)); (case hd => (simp only [push_cast, seval]; done)); (case h => (intro hc; simp only [push_cast, seval, *]; rfl)); simp only [push_cast, seval, *])
    | fail)
      exact ⟨_, H, Weak.trans (Weak.less (H' := S2) (le_skip (unhid v1) (unhid v4))) ((OwnC_wp (unhid v2)).weak fun F F' hF hi => Imp.t (Imps.cons hi (fun h => by cases h) (Imps.refl hF _))), rfl, rfl⟩
end Go.Proofs.Ytdeckjoeggmagaa
