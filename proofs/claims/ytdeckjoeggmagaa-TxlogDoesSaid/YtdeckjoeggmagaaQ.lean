/- State; the layer does something. -/
import Derived.Test.YtdeckjoeggmagaaP
namespace Go.Proofs.Ytdeckjoeggmagaa
open Go.RowKit
open Nat renaming reduceEqDiff → nA, reduceLT → nB, reduceLeDiff → nC, reduceAdd → nD, reduceMul → nE, reduceSub → nF, reduceBEq → nG
open Int renaming reduceToNat → iA, reduceLT → iB, reduceLE → iC, reduceEq → iD
open Bool renaming and_eq_true → bA, or_eq_true → bB, or_eq_false_iff → bC, and_eq_false_iff → bD, not_eq_true' → bE, not_eq_false' → bF, not_true → bG, not_false → bH
set_option linter.all false
set_option maxHeartbeats 4000000
attribute [local irreducible] AW Does ACall tE tS tB tZ
set_option maxRecDepth 5000

def stT (l : List Tx) (v : Nm) : Option Int := (l.find? fun x => decide (x.nm = v)).map Tx.st
def stateS (l : Lg) (v : Nm) : Int := match stT l.txs v with | some s => s | none => if v ∈ l.done then 3 else 0
theorem stT_cons (x : Tx) (l : List Tx) (v : Nm) : stT (x :: l) v = if x.nm = v then some x.st else stT l v := by
  unfold stT
  rw [List.find?_cons]
  by_cases h : x.nm = v <;> simp [h]
theorem State_p (l : Lg) (hf : l.fits) (v : Nm) : Pure Try.prog 45 [.g (Lg.av l), .g (Nm.av v)] (.c (.int .i64 (stateS l v))) := by
  intro H
  obtain ⟨a, b, c⟩ := l
  have ha := hf.1.1
  have hb := hf.1.2.1
  simp only at ha hb
  have hct := hasN_p b (by unfold maxLen; omega) v
  have hav : Lg.av ⟨a, b, c⟩ = [.l 5 (a.map Tx.av), .l 3 (b.map Nm.av), .l 3 (c.map Rec.av)] := rfl
  rw [hav]
  clear hav hf
  obtain ⟨S, hS⟩ : ∃ S, S = stateS ⟨a, b, c⟩ v := ⟨_, rfl⟩
  rw [← hS]
  unfold stateS at hS
  simp only at hS
  obtain ⟨vs, va, vn⟩ := v
  have hnv : Nm.av ⟨vs, va, vn⟩ = [.c (.int .i64 vs), .c (.int .i64 va), .c (.int .i64 vn)] := rfl
  rw [hnv] at hct ⊢
  replace hS := Lib.hid hS
  replace hct := Lib.hid hct
  refine ACall_of' Try.func45 rfl (Ent_of Try.func45 (by kernel_rfl) rfl) (by simp [Try.ntmps45]) ?_; simp only [Try.ntmps45, Try.results45]
  repeat' (first
    | refine AW_seq_kn fun K hK => ?_
    | refine AW_block ?_
    | ((first
      | refine AW_region E0 ?_ | refine AW_ret ?_ | refine AW_exit ?_ | refine AW_skip ?_ | unfold retQ); try simp only [push_cast, seval, *])
    | (apply AW_cond; (case hc => (simp only [push_cast, seval]; rfl)); all_goals (intro hc; first | (exfalso; simp only [push_cast, seval, *] at hc; done) | (exact absurd hc (by decide)) | ((try first | rw [Bool.not_true] at hc | rw [Bool.not_false] at hc); first | (with_reducible replace hc := tTT hc); clear hc | (with_reducible replace hc := tFF hc); clear hc | (have hp := hc; try simp only [decide_eq_true_eq, decide_eq_false_iff_not, bA, bB, bC, bD, bE, bF, bG, bH] at hp))))
    | (refine Kn.go hK ?_; clear hK K)
    | refine Kn.go (by assumption) ?_
    | (intro n hn; (try simp only [upd_none2, join_none_iff, ite_none, ne_eq] at hn); (try simp only [push_cast, seval, *]))
    | (intro hc)
    | fail)
  rename_i n1 h1
  generalize n = n2 at *
  obtain ⟨G, hG⟩ : ∃ G : Heap, G = upd (upd H n1 (.r 47 3 1 [[.l 5 (a.map Tx.av), .l 3 (b.map Nm.av), .l 3 (c.map Rec.av)]])) n2 (.r 26 3 1 [[.c (.int .i64 vs), .c (.int .i64 va), .c (.int .i64 vn)]]) := ⟨_, rfl⟩
  have g1 : G n1 = some (.r 47 3 1 [[.l 5 (a.map Tx.av), .l 3 (b.map Nm.av), .l 3 (c.map Rec.av)]]) := by rw [hG, upd_ne hn.1.2, upd_same]
  have g2 : G n2 = some (.r 26 3 1 [[.c (.int .i64 vs), .c (.int .i64 va), .c (.int .i64 vn)]]) := by rw [hG, upd_same]
  have hle : Heap.le H G := by rw [hG]; exact le_new2 h1 hn.2 hn.1.1
  rw [← hG]
  clear hG h1 hn
  have o1 := ne_old g1
  have o2 := ne_old g2
  replace hle := Lib.hid hle
  refine AW_loopN a.length (fun k => stT (a.drop k) ⟨vs, va, vn⟩ = stT a ⟨vs, va, vn⟩) (fun k => [(2, .p n1 3 0 0), (3, .p n2 3 0 0), (8, .l 5 (a.map Tx.av)), (9, ci a.length), (10, ci k)]) (fun _ => G) (by rw [List.drop_zero]) ?_ ?_ ?_ ?_
  · (first | trivial | (simp only [push_cast, seval, *]; done))
  · exact Heap.le_refl _
  · intro k hk hinv
    have hx := List.getElem?_eq_getElem (l := a) hk; generalize a[k] = x at hx; have hxm := List.mem_of_getElem? hx; have hkl : (k : Int) < a.length := (by omega); have hkw : IntKind.i64.wrap ((k : Int) + 1) = (k : Int) + 1 := wrap_i64 (by omega) (by omega)
    rw [drop_get hx, stT_cons] at hinv
    obtain ⟨⟨xs, xa, xn⟩, xst, xrs⟩ := x
    have hxv : Tx.av ⟨⟨xs, xa, xn⟩, xst, xrs⟩ = [.c (.int .i64 xs), .c (.int .i64 xa), .c (.int .i64 xn), .c (.int .i64 xst), .l 3 (xrs.map Rec.av)] := rfl
    simp only at hinv
    clear hxm
    by_cases e : (⟨xs, xa, xn⟩ : Nm) = ⟨vs, va, vn⟩
    · rw [if_pos e] at hinv
      have hSv := unhid hS
      rw [← hinv] at hSv
      simp only at hSv
      subst hSv
      cases e
      clear hinv hS
      repeat' (first
    | refine AW_seq_kn fun K hK => ?_
    | refine AW_block ?_
    | ((first
      | refine AW_region E0 ?_ | refine AW_ret ?_ | refine AW_exit ?_ | refine AW_skip ?_ | unfold retQ); try simp only [push_cast, seval, *])
    | (apply AW_cond; (case hc => (simp only [push_cast, seval]; rfl)); all_goals (intro hc; first | (exfalso; simp only [push_cast, seval, *] at hc; done) | (exact absurd hc (by decide)) | ((try first | rw [Bool.not_true] at hc | rw [Bool.not_false] at hc); first | (with_reducible replace hc := tTT hc); clear hc | (with_reducible replace hc := tFF hc); clear hc | (have hp := hc; try simp only [decide_eq_true_eq, decide_eq_false_iff_not, bA, bB, bC, bD, bE, bF, bG, bH] at hp))))
    | (refine Kn.go hK ?_; clear hK K)
    | refine Kn.go (by assumption) ?_
    | (intro n hn; (try simp only [upd_none2, join_none_iff, ite_none, ne_eq] at hn); (try simp only [push_cast, seval, *]))
    | (intro hc)
    | fail)
      exact ⟨_, _, Weak.less (by repeat' (first | exact unhid hle | refine Heap.le_trans (unhid hle) (le_upd_new hn))), rfl, rfl⟩
    · rw [if_neg e] at hinv
      have hb : (decide (xs = vs) && (decide (xa = va) && decide (xn = vn))) = false := by
        simp only [Nm.mk.injEq] at e
        rw [← Bool.not_eq_true]
        simp only [Bool.and_eq_true, decide_eq_true_eq]
        rintro ⟨rfl, rfl, rfl⟩
        exact e ⟨rfl, rfl, rfl⟩
      replace hinv := Lib.hid hinv
      replace e := Lib.hid e
      repeat' (first
    | refine AW_seq_kn fun K hK => ?_
    | refine AW_block ?_
    | ((first
      | refine AW_region E0 ?_ | refine AW_ret ?_ | refine AW_exit ?_ | refine AW_skip ?_ | unfold retQ); try simp only [push_cast, seval, *])
    | (apply AW_cond; (case hc => (simp only [push_cast, seval]; rfl)); all_goals (intro hc; first | (exfalso; simp only [push_cast, seval, *] at hc; done) | (exact absurd hc (by decide)) | ((try first | rw [Bool.not_true] at hc | rw [Bool.not_false] at hc); first | (with_reducible replace hc := tTT hc); clear hc | (with_reducible replace hc := tFF hc); clear hc | (have hp := hc; try simp only [decide_eq_true_eq, decide_eq_false_iff_not, bA, bB, bC, bD, bE, bF, bG, bH] at hp))))
    | (refine Kn.go hK ?_; clear hK K)
    | refine Kn.go (by assumption) ?_
    | (intro n hn; (try simp only [upd_none2, join_none_iff, ite_none, ne_eq] at hn); (try simp only [push_cast, seval, *]))
    | (intro hc)
    | fail)
      all_goals first
        | exact ⟨unhid hinv, by (first | trivial | (simp only [push_cast, seval, *]; done)), by first | trivial | (repeat' (first | exact Heap.le_refl _ | refine hle_upd2 ?_ _ _ | (refine Heap.le_new ?_ ?_; rotate_left 1; focus (first | assumption | (simp only [upd_none2, upd_get, ne_eq, push_cast, seval, *]; done) | (simp [upd_get, *]; done)))))⟩
        | (exfalso; simp_all; done)
  · intro hinv
    rw [List.drop_length] at hinv
    have hSv := unhid hS
    rw [← hinv] at hSv
    have h0 : stT [] ⟨vs, va, vn⟩ = none := rfl
    rw [h0] at hSv
    simp only at hSv
    have hct2 := unhid hct
    by_cases hm : (⟨vs, va, vn⟩ : Nm) ∈ b
    · rw [if_pos hm] at hSv
      rw [decide_eq_true hm] at hct2
      subst hSv
      clear hinv hS hm hct
      repeat' (first
    | refine AW_seq_kn fun K hK => ?_
    | refine AW_block ?_
    | (refine does_call rfl rfl ?_; simp only [push_cast, seval, *]; refine ACall.monoP (hct2 _) ?_; (try simp only [push_cast, seval, *]))
    | ((first
      | refine AW_region E0 ?_ | refine AW_ret ?_ | refine AW_exit ?_ | refine AW_skip ?_ | unfold retQ); try simp only [push_cast, seval, *])
    | (apply AW_cond; (case hc => (simp only [push_cast, seval]; rfl)); all_goals (intro hc; first | (exfalso; simp only [push_cast, seval, *] at hc; done) | (exact absurd hc (by decide)) | ((try first | rw [Bool.not_true] at hc | rw [Bool.not_false] at hc); first | (with_reducible replace hc := tTT hc); clear hc | (with_reducible replace hc := tFF hc); clear hc | (have hp := hc; try simp only [decide_eq_true_eq, decide_eq_false_iff_not, bA, bB, bC, bD, bE, bF, bG, bH] at hp))))
    | (refine Kn.go hK ?_; clear hK K)
    | refine Kn.go (by assumption) ?_
    | (intro n hn; (try simp only [upd_none2, join_none_iff, ite_none, ne_eq] at hn); (try simp only [push_cast, seval, *]))
    | (intro hc)
    | fail)
      exact ⟨_, _, Weak.less (unhid hle), rfl, rfl⟩
    · rw [if_neg hm] at hSv
      rw [decide_eq_false hm] at hct2
      subst hSv
      clear hinv hS hm hct
      repeat' (first
    | refine AW_seq_kn fun K hK => ?_
    | refine AW_block ?_
    | (refine does_call rfl rfl ?_; simp only [push_cast, seval, *]; refine ACall.monoP (hct2 _) ?_; (try simp only [push_cast, seval, *]))
    | ((first
      | refine AW_region E0 ?_ | refine AW_ret ?_ | refine AW_exit ?_ | refine AW_skip ?_ | unfold retQ); try simp only [push_cast, seval, *])
    | (apply AW_cond; (case hc => (simp only [push_cast, seval]; rfl)); all_goals (intro hc; first | (exfalso; simp only [push_cast, seval, *] at hc; done) | (exact absurd hc (by decide)) | ((try first | rw [Bool.not_true] at hc | rw [Bool.not_false] at hc); first | (with_reducible replace hc := tTT hc); clear hc | (with_reducible replace hc := tFF hc); clear hc | (have hp := hc; try simp only [decide_eq_true_eq, decide_eq_false_iff_not, bA, bB, bC, bD, bE, bF, bG, bH] at hp))))
    | (refine Kn.go hK ?_; clear hK K)
    | refine Kn.go (by assumption) ?_
    | (intro n hn; (try simp only [upd_none2, join_none_iff, ite_none, ne_eq] at hn); (try simp only [push_cast, seval, *]))
    | (intro hc)
    | fail)
      exact ⟨_, _, Weak.less (unhid hle), rfl, rfl⟩
def wN : Nm := ⟨1, 1, 1⟩
def wR : Rec := ⟨0, 3, 5⟩
def wL1 : Lg := ⟨[⟨wN, 1, []⟩], [], []⟩
def wL2 : Lg := ⟨[⟨wN, 1, [wR]⟩], [], []⟩
def wL3 : Lg := ⟨[⟨wN, 2, [wR]⟩], [], []⟩
def wL4 : Lg := ⟨[], [wN], [wR]⟩
theorem wk1 : openR zeroL wN = (wL1, 0) := by decide
theorem wk2 : writeR wL1 wN [wR] = (wL2, 0) := by decide
theorem wk3 : commitR wL2 [wN] = (zeroL, 261) := by decide
theorem wk4 : readyR wL2 wN = (wL3, 0) := by decide
theorem wk5 : commitR wL3 [wN] = (wL4, 0) := by decide
theorem wk6 : valsS wL4.log wR = [5] := by decide
theorem wk7 : stateS wL4 wN = 3 := by decide
theorem fits_of {l : Lg} (h : lgOk l = true) : l.fits := by
  obtain ⟨h1, h2, h3, -, h5⟩ := lgOk_bd h
  exact ⟨⟨by omega, by omega, by omega⟩, fun t ht => by have := h5 t ht; omega⟩
theorem wakes16_p : Pure Try.prog 13 [] (.c (.bool true)) := by
  intro H
  have f1 : wL1.fits := fits_of (by decide)
  have f2 : wL2.fits := fits_of (by decide)
  have f3 : wL3.fits := fits_of (by decide)
  have f4 : wL4.fits := fits_of (by decide)
  have c1 := fun M => Open_z wN M
  have c2 := fun M m hm => Write_l1 wL1 f1 wN wR (M := M) (m := m) hm
  have c3 := fun M m hm => Commit_l1 wL2 f2 wN (M := M) (m := m) hm
  have c4 := Ready_p wL2 f2 wN
  have c5 := fun M m hm => Commit_l1 wL3 f3 wN (M := M) (m := m) hm
  have c6 := Values_p wL4 f4 wR
  have c7 := State_p wL4 f4 wN
  simp only [wk1, wk2, wk3, wk4, wk5, wk6, wk7] at c1 c2 c3 c4 c5 c6 c7
  generalize wL1 = L1 at *
  generalize wL2 = L2 at *
  generalize wL3 = L3 at *
  generalize wL4 = L4 at *
  generalize zeroL = L0 at *
  obtain ⟨a1, b1, d1⟩ := L1
  obtain ⟨a2, b2, d2⟩ := L2
  obtain ⟨a3, b3, d3⟩ := L3
  obtain ⟨a4, b4, d4⟩ := L4
  obtain ⟨a0, b0, d0⟩ := L0
  simp only [wN, wR, Nm.av, Rec.av, Lg.av, List.map_cons, List.map_nil] at c1 c2 c3 c4 c5 c6 c7
  clear f1 f2 f3 f4
  replace c1 := Lib.hid c1
  replace c2 := Lib.hid c2
  replace c3 := Lib.hid c3
  replace c4 := Lib.hid c4
  replace c5 := Lib.hid c5
  replace c6 := Lib.hid c6
  replace c7 := Lib.hid c7
  refine ACall_of' Try.func13 rfl (Ent_of Try.func13 (by kernel_rfl) rfl) (by simp [Try.ntmps13]) ?_; simp only [Try.ntmps13, Try.results13]
  repeat' (first
    | refine AW_seq_kn fun K hK => ?_
    | refine AW_block ?_
    | (refine does_call rfl rfl ?_; simp only [push_cast, seval, *]; refine ACall.monoP (unhid c1 _) ?_; (try simp only [push_cast, seval, *]))
    | (refine does_call rfl rfl ?_; simp only [push_cast, seval, *]; refine ACall.monoP (unhid c2 _ _ (by simp only [push_cast, seval, upd_get, *])) ?_; (try simp only [push_cast, seval, *]))
    | (refine does_call rfl rfl ?_; simp only [push_cast, seval, *]; refine ACall.monoP (unhid c3 _ _ (by simp only [push_cast, seval, upd_get, *])) ?_; (try simp only [push_cast, seval, *]))
    | (refine does_call rfl rfl ?_; simp only [push_cast, seval, *]; refine ACall.monoP (unhid c4 _) ?_; (try simp only [push_cast, seval, *]))
    | (refine does_call rfl rfl ?_; simp only [push_cast, seval, *]; refine ACall.monoP (unhid c5 _ _ (by simp only [push_cast, seval, upd_get, *])) ?_; (try simp only [push_cast, seval, *]))
    | (refine does_call rfl rfl ?_; simp only [push_cast, seval, *]; refine ACall.monoP (unhid c6 _) ?_; (try simp only [push_cast, seval, *]))
    | (refine does_call rfl rfl ?_; simp only [push_cast, seval, *]; refine ACall.monoP (unhid c7 _) ?_; (try simp only [push_cast, seval, *]))
    | ((first
      | refine AW_region E0 ?_ | refine AW_ret ?_ | refine AW_exit ?_ | refine AW_skip ?_ | unfold retQ); try simp only [push_cast, seval, *])
    | ((first | (apply AW_cond; (case hc => (simp only [push_cast, seval]; rfl))) | (apply ER_guard; (case hb => (simp only [push_cast, seval]; rfl)))); all_goals ((intro hc; first | (exfalso; simp only [push_cast, seval, *] at hc; done) | (exact absurd hc (by decide)) | ((try first | rw [Bool.not_true] at hc | rw [Bool.not_false] at hc); first | (with_reducible replace hc := tTT hc); clear hc | (with_reducible replace hc := tFF hc); clear hc | (have hp := hc; try simp only [decide_eq_true_eq, decide_eq_false_iff_not, bA, bB, bC, bD, bE, bF, bG, bH] at hp))) <;> try simp only [push_cast, seval, *]))
    | (refine Kn.go hK ?_; clear hK K)
    | refine Kn.go (by assumption) ?_
    | (intro n hn; (try simp only [upd_none2, join_none_iff, ite_none, ne_eq] at hn); (try simp only [push_cast, seval, *]))
    | (intro hc)
    | (apply ER_blk; (case hp => rfl); (case hb => (simp only [push_cast, seval]; rfl)); (case hd => (simp only [push_cast, seval]; done)); (case h => (intro hc; simp only [push_cast, seval, *]; rfl)); simp only [push_cast, seval, *])
    | fail)
  exact ⟨_, _, Weak.less (by (repeat' (first | exact Heap.le_refl _ | refine hle_upd2 ?_ _ _ | (refine Heap.le_new ?_ ?_; rotate_left 1; focus (first | assumption | (simp only [upd_none2, upd_get, ne_eq, push_cast, seval, *]; done) | (simp [upd_get, *]; done)))))), rfl, rfl⟩
end Go.Proofs.Ytdeckjoeggmagaa
