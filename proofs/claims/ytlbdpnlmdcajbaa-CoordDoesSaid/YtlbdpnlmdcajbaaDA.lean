/- The document's words: the same numbers; a copy. -/
import Derived.Test.YtlbdpnlmdcajbaaZG
import Derived.Test.YtlbdpnlmdcajbaaZI
import Derived.Test.YtlbdpnlmdcajbaaCU
import Derived.Test.YtlbdpnlmdcajbaaY
namespace Go.Proofs.Ytlbdpnlmdcajbaa
open Go.RowKit
open Nat renaming reduceEqDiff → nA, reduceLT → nB, reduceLeDiff → nC, reduceAdd → nD, reduceMul → nE, reduceSub → nF, reduceBEq → nG
open Int renaming reduceToNat → iA, reduceLT → iB, reduceLE → iC, reduceEq → iD
open Bool renaming and_eq_true → bA, or_eq_true → bB, or_eq_false_iff → bC, and_eq_false_iff → bD, not_eq_true' → bE, not_eq_false' → bF, not_true → bG, not_false → bH
set_option linter.all false
set_option maxHeartbeats 4000000
attribute [local irreducible] AW Does ACall tE tS tB tZ
def dLDA0 : List En := [(0, false, []), (1, false, []), (2, false, []), (3, false, []), (4, false, []), (5, false, []), (6, false, []), (7, false, []), (8, false, [])]
def dADA0 : List (List Nat) := [[], [], [0, 1], [0, 1, 2], [], [], [4, 5], [4, 5, 6], [0, 1, 2, 3, 4, 5, 6, 7]]
attribute [push_cast] dLDA0
def dLDA1 : List En := [(0, false, []), (1, false, []), (2, true, []), (4, false, []), (5, false, []), (3, false, []), (6, false, [2]), (7, false, []), (8, false, []), (9, false, []), (10, false, [])]
def dADA1 : List (List Nat) := [[], [], [1], [], [], [4], [3, 4, 5], [1, 2, 3, 4, 5, 6], [1, 2, 3, 4, 5, 6, 7], [0, 1, 2, 3, 4, 5, 6, 7, 8], [0, 1, 2, 3, 4, 5, 6, 7, 8, 9]]
attribute [push_cast] dLDA1
set_option maxRecDepth 5000

theorem sameNum_p (a b : List Int) (ha : a.length ≤ maxLen) (hb : b.length ≤ maxLen) : Pure Try.prog 21 [.l 1 (a.map iu), .l 1 (b.map iu)] (.c (.bool (decide (a = b)))) := by
  intro H
  unfold maxLen at ha hb
  by_cases hl : a.length = b.length
  · have hlT : ((a.length : Int) = (b.length : Int)) = True := by simp [hl]
    have hyes := fun h : EqI a b a.length => decide_eq_true (h.done hl)
    have hno := fun k x y (hx : a[k]? = some x) (hy : b[k]? = some y) (h : ¬ x = y) => eq_no hx hy h
    generalize decide (a = b) = D at *
    replace hl := Lib.hid hl
    replace hyes := Lib.hid hyes
    replace hno := Lib.hid hno
    refine ACall_of' Try.func21 rfl (Ent_of Try.func21 (by kernel_rfl) rfl) (by simp [Try.ntmps21]) ?_; simp only [Try.ntmps21, Try.results21]
    repeat' (first
    | refine AW_seq_kn fun K hK => ?_
    | refine AW_block ?_
    | ((first
      | refine AW_region_draw (id := 6) E0 (fun f => [].contains f) dLDA0 dADA0 mixed (by kernel_rfl) ?_
      | refine AW_region E0 ?_ | refine AW_ret ?_ | refine AW_exit ?_ | refine AW_skip ?_ | unfold retQ); try simp only [push_cast, seval, *])
    | (apply AW_cond; (case hc => (simp only [push_cast, seval]; rfl)); all_goals (intro hc; first | (exfalso; simp only [push_cast, seval, *] at hc; done) | (exact absurd hc (by decide)) | ((try first | rw [Bool.not_true] at hc | rw [Bool.not_false] at hc); first | (with_reducible replace hc := tTT hc); clear hc | (with_reducible replace hc := tFF hc); clear hc | (have hp := hc; try simp only [decide_eq_true_eq, decide_eq_false_iff_not, bA, bB, bC, bD, bE, bF, bG, bH] at hp))))
    | (refine Kn.go hK ?_; clear hK K)
    | refine Kn.go (by assumption) ?_
    | (intro n hn; (try simp only [upd_none2, join_none_iff, ite_none, ne_eq] at hn); (try simp only [push_cast, seval, *]))
    | (intro hc)
    | fail)
    refine AW_loopN a.length (fun k => EqI a b k) (fun k => [(0, .l 1 (a.map iu)), (1, .l 1 (b.map iu)), (12, ci a.length), (13, ci k)]) (fun _ => H) (EqI.zero _ _) ?_ ?_ ?_ ?_
    · (first | trivial | (simp only [push_cast, seval, *]; done))
    · (repeat' (first | exact Heap.le_refl _ | refine hle_upd2 ?_ _ _ | (refine Heap.le_new ?_ ?_; rotate_left 1; focus (first | assumption | (simp only [upd_none2, upd_get, ne_eq, push_cast, seval, *]; done) | (simp [upd_get, *]; done)))))
    · intro k hk hinv
      have hkb : k < b.length := by have := unhid hl; omega
      have hx := List.getElem?_eq_getElem (l := a) hk; generalize a[k] = x at hx; have hxm := List.mem_of_getElem? hx; have hkl : (k : Int) < a.length := (by omega); have hkw : IntKind.i64.wrap ((k : Int) + 1) = (k : Int) + 1 := wrap_i64 (by omega) (by omega)
      have hkbl : (k : Int) < b.length := by omega
      obtain ⟨y, hy⟩ : ∃ y, b[k]? = some y := ⟨_, List.getElem?_eq_getElem hkb⟩
      have hav : ∀ x, iu x = [.c (.int .u64 x)] := fun _ => rfl
      have hst := fun e : x = y => hinv.step hx (e ▸ hy)
      have hn := unhid hno k x y hx hy
      replace hst := Lib.hid hst
      clear hxm hinv hno hyes
      by_cases e : x = y
      · have eT := eq_true e
        clear e hn
        repeat' (first
    | refine AW_seq_kn fun K hK => ?_
    | refine AW_block ?_
    | ((first
      | refine AW_region_draw (id := 6) E0 (fun f => [].contains f) dLDA0 dADA0 mixed (by kernel_rfl) ?_
      | refine AW_region E0 ?_ | refine AW_ret ?_ | refine AW_exit ?_ | refine AW_skip ?_ | unfold retQ); try simp only [push_cast, seval, *])
    | (apply AW_cond; (case hc => (simp only [push_cast, seval]; rfl)); all_goals (intro hc; first | (exfalso; simp only [push_cast, seval, *] at hc; done) | (exact absurd hc (by decide)) | ((try first | rw [Bool.not_true] at hc | rw [Bool.not_false] at hc); first | (with_reducible replace hc := tTT hc); clear hc | (with_reducible replace hc := tFF hc); clear hc | (have hp := hc; try simp only [decide_eq_true_eq, decide_eq_false_iff_not, bA, bB, bC, bD, bE, bF, bG, bH] at hp))))
    | (refine Kn.go hK ?_; clear hK K)
    | refine Kn.go (by assumption) ?_
    | (intro n hn; (try simp only [upd_none2, join_none_iff, ite_none, ne_eq] at hn); (try simp only [push_cast, seval, *]))
    | (intro hc)
    | fail)
        exact ⟨unhid hst (of_eq_true eT), by (first | trivial | (simp only [push_cast, seval, *]; done)), by first | trivial | (repeat' (first | exact Heap.le_refl _ | refine hle_upd2 ?_ _ _ | (refine Heap.le_new ?_ ?_; rotate_left 1; focus (first | assumption | (simp only [upd_none2, upd_get, ne_eq, push_cast, seval, *]; done) | (simp [upd_get, *]; done)))))⟩
      · have hD := hn e
        subst hD
        have eF := eq_false e
        clear e hn hst
        repeat' (first
    | refine AW_seq_kn fun K hK => ?_
    | refine AW_block ?_
    | ((first
      | refine AW_region_draw (id := 6) E0 (fun f => [].contains f) dLDA0 dADA0 mixed (by kernel_rfl) ?_
      | refine AW_region E0 ?_ | refine AW_ret ?_ | refine AW_exit ?_ | refine AW_skip ?_ | unfold retQ); try simp only [push_cast, seval, *])
    | (apply AW_cond; (case hc => (simp only [push_cast, seval]; rfl)); all_goals (intro hc; first | (exfalso; simp only [push_cast, seval, *] at hc; done) | (exact absurd hc (by decide)) | ((try first | rw [Bool.not_true] at hc | rw [Bool.not_false] at hc); first | (with_reducible replace hc := tTT hc); clear hc | (with_reducible replace hc := tFF hc); clear hc | (have hp := hc; try simp only [decide_eq_true_eq, decide_eq_false_iff_not, bA, bB, bC, bD, bE, bF, bG, bH] at hp))))
    | (refine Kn.go hK ?_; clear hK K)
    | refine Kn.go (by assumption) ?_
    | (intro n hn; (try simp only [upd_none2, join_none_iff, ite_none, ne_eq] at hn); (try simp only [push_cast, seval, *]))
    | (intro hc)
    | fail)
        exact ⟨_, _, Weak.refl _ _, rfl, rfl⟩
    · intro hinv
      have e := unhid hyes hinv
      subst e
      repeat' (first
    | refine AW_seq_kn fun K hK => ?_
    | refine AW_block ?_
    | ((first
      | refine AW_region_draw (id := 6) E0 (fun f => [].contains f) dLDA0 dADA0 mixed (by kernel_rfl) ?_
      | refine AW_region E0 ?_ | refine AW_ret ?_ | refine AW_exit ?_ | refine AW_skip ?_ | unfold retQ); try simp only [push_cast, seval, *])
    | (apply AW_cond; (case hc => (simp only [push_cast, seval]; rfl)); all_goals (intro hc; first | (exfalso; simp only [push_cast, seval, *] at hc; done) | (exact absurd hc (by decide)) | ((try first | rw [Bool.not_true] at hc | rw [Bool.not_false] at hc); first | (with_reducible replace hc := tTT hc); clear hc | (with_reducible replace hc := tFF hc); clear hc | (have hp := hc; try simp only [decide_eq_true_eq, decide_eq_false_iff_not, bA, bB, bC, bD, bE, bF, bG, bH] at hp))))
    | (refine Kn.go hK ?_; clear hK K)
    | refine Kn.go (by assumption) ?_
    | (intro n hn; (try simp only [upd_none2, join_none_iff, ite_none, ne_eq] at hn); (try simp only [push_cast, seval, *]))
    | (intro hc)
    | fail)
      exact ⟨_, _, Weak.refl _ _, rfl, rfl⟩
  · rw [decide_eq_false (fun h : a = b => hl (by rw [h]))]
    have hlF : ((a.length : Int) = b.length) = False := by simp; omega
    refine ACall_of' Try.func21 rfl (Ent_of Try.func21 (by kernel_rfl) rfl) (by simp [Try.ntmps21]) ?_; simp only [Try.ntmps21, Try.results21]
    repeat' (first
    | refine AW_seq_kn fun K hK => ?_
    | refine AW_block ?_
    | ((first
      | refine AW_region_draw (id := 6) E0 (fun f => [].contains f) dLDA0 dADA0 mixed (by kernel_rfl) ?_
      | refine AW_region E0 ?_ | refine AW_ret ?_ | refine AW_exit ?_ | refine AW_skip ?_ | unfold retQ); try simp only [push_cast, seval, *])
    | (apply AW_cond; (case hc => (simp only [push_cast, seval]; rfl)); all_goals (intro hc; first | (exfalso; simp only [push_cast, seval, *] at hc; done) | (exact absurd hc (by decide)) | ((try first | rw [Bool.not_true] at hc | rw [Bool.not_false] at hc); first | (with_reducible replace hc := tTT hc); clear hc | (with_reducible replace hc := tFF hc); clear hc | (have hp := hc; try simp only [decide_eq_true_eq, decide_eq_false_iff_not, bA, bB, bC, bD, bE, bF, bG, bH] at hp))))
    | (refine Kn.go hK ?_; clear hK K)
    | refine Kn.go (by assumption) ?_
    | (intro n hn; (try simp only [upd_none2, join_none_iff, ite_none, ne_eq] at hn); (try simp only [push_cast, seval, *]))
    | (intro hc)
    | fail)
    exact ⟨_, _, Weak.refl _ _, rfl, rfl⟩
def Cd.small (c : Cd) : Prop := c.pend.length ≤ 3 ∧ ∀ p ∈ c.pend, p.acks.length ≤ 17 ∧ ∀ a ∈ p.acks, a.bytes.length ≤ 3001
theorem small_of {c : Cd} (h : cdOk c = true) : c.small := by
  have ⟨h1, h2⟩ := cdOk_bd h
  refine ⟨by omega, fun p hp => ?_⟩
  have ⟨h3, h4⟩ := h2 p hp
  exact ⟨by omega, fun a ha => by have := h4 a ha; omega⟩
theorem small_short (c : Cd) : (shortS c).small := by
  refine ⟨by simp [shortS]; omega, fun p hp => ?_⟩
  simp only [shortS] at hp
  obtain ⟨q, -, rfl⟩ := List.mem_map.1 hp
  refine ⟨by simp [shP]; omega, fun a ha => ?_⟩
  simp only [shP] at ha
  obtain ⟨b, -, rfl⟩ := List.mem_map.1 ha
  simp [shA]; omega
theorem Copy_b (c : Cd) (hc : c.small) (H : Heap) : ACall Try.prog 22 [.g (Cd.av c)] H fun r H' => ∃ y, r = .g (c.cl y) ∧ OwnL H' y 61 4 (c.pend.map Pd.av) H := by
  obtain ⟨e, k0, t, a, s, l⟩ := c
  obtain ⟨hl, hg⟩ := hc
  simp only at hl hg
  have hav : Cd.av ⟨e, k0, t, a, s, l⟩ = [.c (.int .u64 e), .c (.int .u64 k0), .c (.int .i64 t), .c (.int .i64 a), .c (.int .i64 s), .l 4 (l.map Pd.av)] := rfl
  rw [hav]
  simp only [Cd.cl]
  clear hav
  replace hg := Lib.hid hg
  have hE1 := tE45
  have hS1 := tS5
  have hB1 := tB5
  have hZ1 := tZ5
  have hE2 := tE50
  have hS2 := tS47
  have hB2 := tB47
  have hZ2 := tZ47
  have hE4 := tE28
  have hS4 := tS61
  have hB4 := tB61
  have hZ4 := tZ61
  refine ACall_of' Try.func22 rfl (Ent_of Try.func22 (by kernel_rfl) rfl) (by simp [Try.ntmps22]) ?_; simp only [Try.ntmps22, Try.results22]
  repeat' (first
    | refine AW_seq_kn fun K hK => ?_
    | refine AW_block ?_
    | ((first
      | refine AW_region_draw (id := 9) E0 (fun f => [].contains f) dLDA1 dADA1 mixed (by kernel_rfl) ?_
      | refine AW_region E0 ?_ | refine AW_ret ?_ | refine AW_exit ?_ | refine AW_skip ?_ | unfold retQ); try simp only [push_cast, seval, *])
    | (apply AW_cond; (case hc => (simp only [push_cast, seval]; rfl)); all_goals (intro hc; first | (exfalso; simp only [push_cast, seval, *] at hc; done) | (exact absurd hc (by decide)) | ((try first | rw [Bool.not_true] at hc | rw [Bool.not_false] at hc); first | (with_reducible replace hc := tTT hc); clear hc | (with_reducible replace hc := tFF hc); clear hc | (have hp := hc; try simp only [decide_eq_true_eq, decide_eq_false_iff_not, bA, bB, bC, bD, bE, bF, bG, bH] at hp))))
    | (refine Kn.go hK ?_; clear hK K)
    | refine Kn.go (by assumption) ?_
    | (intro n hn; (try simp only [upd_none2, join_none_iff, ite_none, ne_eq] at hn); (try simp only [push_cast, seval, *]))
    | (intro hc)
    | fail)
  rename_i n1 h1
  generalize n = n2 at *
  have n12 : ¬ n1 = n2 := hn.1.2
  have n21 : ¬ n2 = n1 := hn.1.1
  obtain ⟨base, hbase⟩ : ∃ base : Heap, base = upd (upd H n1 (.r 30 6 1 [[.c (.int .u64 e), .c (.int .u64 k0), .c (.int .i64 t), .c (.int .i64 a), .c (.int .i64 s), .l 4 (l.map Pd.av)]])) n2 (.r 30 6 1 [[.c (.int .u64 0), .c (.int .u64 0), .c (.int .i64 0), .c (.int .i64 0), .c (.int .i64 0), .c (.slice none 0 0)]]) := ⟨_, rfl⟩
  have b1 : base n1 = some (.r 30 6 1 [[.c (.int .u64 e), .c (.int .u64 k0), .c (.int .i64 t), .c (.int .i64 a), .c (.int .i64 s), .l 4 (l.map Pd.av)]]) := by rw [hbase]; simp only [push_cast, seval, upd_get, *]
  have b2 : base n2 = some (.r 30 6 1 [[.c (.int .u64 0), .c (.int .u64 0), .c (.int .i64 0), .c (.int .i64 0), .c (.int .i64 0), .c (.slice none 0 0)]]) := by rw [hbase]; exact upd_same _ _ _
  have hle : Heap.le H base := by rw [hbase]; (repeat' (first | exact Heap.le_refl _ | refine hle_upd2 ?_ _ _ | (refine Heap.le_new ?_ ?_; rotate_left 1; focus (first | assumption | (simp only [upd_none2, upd_get, ne_eq, push_cast, seval, *]; done) | (simp [upd_get, *]; done)))))
  rw [← hbase]
  have hHn1 : H n1 = none := h1
  have hHn2 : H n2 = none := hn.2
  clear hbase h1 hn
  replace hle := Lib.hid hle
  replace hHn1 := Lib.hid hHn1
  replace hHn2 := Lib.hid hHn2
  refine AW_loopX (σ := AV × Heap) l.length (fun k s => OwnL s.2 s.1 61 4 ((l.take k).map Pd.av) base) (fun k s => [(1, .p n1 6 0 0), (2, .p n2 6 0 0), (3, s.1), (10, .l 4 (l.map Pd.av)), (11, ci l.length), (12, ci k)]) (fun k s => s.2) (.c (.slice none 0 0), base) (OwnL.nil _ _ _) ?_ ?_ ?_ ?_
  · (first | trivial | (simp only [push_cast, seval, *]; done))
  · exact Heap.le_refl _
  · rintro k ⟨x, Hs⟩ hk ho
    simp only at ho ⊢
    have hp := List.getElem?_eq_getElem (l := l) hk; generalize l[k] = p at hp; have hpm := List.mem_of_getElem? hp; have hkl : (k : Int) < l.length := (by omega); have hkw : IntKind.i64.wrap ((k : Int) + 1) = (k : Int) + 1 := wrap_i64 (by omega) (by omega)
    have hgp := unhid hg p hpm
    have hxcs := ho.cs
    have hsn := take_snoc_map Pd.av hp
    obtain ⟨num, bg, sv, ac⟩ := p
    have hav : Pd.av ⟨num, bg, sv, ac⟩ = [.c (.int .u64 num), .c (.int .i64 bg), .c (.bool sv), .l 2 (ac.map Ak.av)] := rfl
    rw [hav] at hsn
    obtain ⟨hacl, hacg⟩ := hgp
    simp only at hacl hacg
    replace ho := Lib.hid ho
    replace hacg := Lib.hid hacg
    replace hsn := Lib.hid hsn
    clear hpm
    repeat' (first
    | refine AW_seq_kn fun K hK => ?_
    | refine AW_block ?_
    | ((first
      | refine AW_region_draw (id := 9) E0 (fun f => [].contains f) dLDA1 dADA1 mixed (by kernel_rfl) ?_
      | refine AW_region E0 ?_ | refine AW_ret ?_ | refine AW_exit ?_ | refine AW_skip ?_ | unfold retQ); try simp only [push_cast, seval, *])
    | (apply AW_cond; (case hc => (simp only [push_cast, seval]; rfl)); all_goals (intro hc; first | (exfalso; simp only [push_cast, seval, *] at hc; done) | (exact absurd hc (by decide)) | ((try first | rw [Bool.not_true] at hc | rw [Bool.not_false] at hc); first | (with_reducible replace hc := tTT hc); clear hc | (with_reducible replace hc := tFF hc); clear hc | (have hp := hc; try simp only [decide_eq_true_eq, decide_eq_false_iff_not, bA, bB, bC, bD, bE, bF, bG, bH] at hp))))
    | (refine Kn.go hK ?_; clear hK K)
    | refine Kn.go (by assumption) ?_
    | (intro n hn; (try simp only [upd_none2, join_none_iff, ite_none, ne_eq] at hn); (try simp only [push_cast, seval, *]))
    | (intro hc)
    | fail)
    have hHsn := hn
    have n1n : ¬ n1 = n := by rintro rfl; have := (unhid ho).get b1; rw [hn] at this; cases this
    have n2n : ¬ n2 = n := by rintro rfl; have := (unhid ho).get b2; rw [hn] at this; cases this
    obtain ⟨hp, hhp⟩ : ∃ hp : Heap, hp = upd Hs n (.r 61 4 1 [[.c (.int .u64 num), .c (.int .i64 bg), .c (.bool sv), .l 2 (ac.map Ak.av)]]) := ⟨_, rfl⟩
    rw [← hhp]
    have kp : hp n = some (.r 61 4 1 [[.c (.int .u64 num), .c (.int .i64 bg), .c (.bool sv), .l 2 (ac.map Ak.av)]]) := by rw [hhp, upd_same]
    have q1 : hp n1 = some (.r 30 6 1 [[.c (.int .u64 e), .c (.int .u64 k0), .c (.int .i64 t), .c (.int .i64 a), .c (.int .i64 s), .l 4 (l.map Pd.av)]]) := by rw [hhp, upd_ne n1n]; exact (unhid ho).get b1
    replace hhp := Lib.hid hhp
    refine AW_loopX (σ := AV × Heap) ac.length (fun j s => OwnL s.2 s.1 47 2 ((ac.take j).map Ak.av) hp) (fun j s => [(1, .p n1 6 0 0), (2, .p n2 6 0 0), (3, x), (5, .p n 4 0 0), (6, s.1), (10, .l 4 (l.map Pd.av)), (11, ci l.length), (12, ci k), (17, .l 2 (ac.map Ak.av)), (18, ci ac.length), (19, ci j)]) (fun j s => s.2) (.c (.slice none 0 0), hp) (OwnL.nil _ _ _) ?_ ?_ ?_ ?_
    · (first | trivial | (simp only [push_cast, seval, *]; done))
    · exact Heap.le_refl _
    · rintro j ⟨y, Hy⟩ hj hoy
      simp only at hoy ⊢
      have hw := List.getElem?_eq_getElem (l := ac) hj; generalize ac[j] = w at hw; have hwm := List.mem_of_getElem? hw; have hjl : (j : Int) < ac.length := (by omega); have hjw : IntKind.i64.wrap ((j : Int) + 1) = (j : Int) + 1 := wrap_i64 (by omega) (by omega)
      have hbl := unhid hacg w hwm
      have hycs := hoy.cs
      have hyone := hoy.one
      have hsw := take_snoc_map Ak.av hw
      obtain ⟨task, bs⟩ := w
      have hav : Ak.av ⟨task, bs⟩ = [.c (.int .i64 task), .l 1 (bs.map by1)] := rfl
      rw [hav] at hsw
      simp only at hbl
      replace hoy := Lib.hid hoy
      replace hsw := Lib.hid hsw
      clear hwm
      repeat' (first
    | refine AW_seq_kn fun K hK => ?_
    | refine AW_block ?_
    | ((first
      | refine AW_region_draw (id := 9) E0 (fun f => [].contains f) dLDA1 dADA1 mixed (by kernel_rfl) ?_
      | refine AW_region E0 ?_ | refine AW_ret ?_ | refine AW_exit ?_ | refine AW_skip ?_ | unfold retQ); try simp only [push_cast, seval, *])
    | (apply AW_cond; (case hc => (simp only [push_cast, seval]; rfl)); all_goals (intro hc; first | (exfalso; simp only [push_cast, seval, *] at hc; done) | (exact absurd hc (by decide)) | ((try first | rw [Bool.not_true] at hc | rw [Bool.not_false] at hc); first | (with_reducible replace hc := tTT hc); clear hc | (with_reducible replace hc := tFF hc); clear hc | (have hp := hc; try simp only [decide_eq_true_eq, decide_eq_false_iff_not, bA, bB, bC, bD, bE, bF, bG, bH] at hp))))
    | (refine Kn.go hK ?_; clear hK K)
    | refine Kn.go (by assumption) ?_
    | (intro n hn; (try simp only [upd_none2, join_none_iff, ite_none, ne_eq] at hn); (try simp only [push_cast, seval, *]))
    | (intro hc)
    | fail)
      rename_i n8 h8
      refine Does.frozen (ty := 5) (does_appL (news := bs.map by1) rfl rfl rfl (OwnL.fresh (by simp only [upd_none2]; exact hn)) hE1 hS1 hB1 hZ1 rfl (by decide) (by simp only [List.length_map, List.length_nil, maxLen]; omega) (by simp only [List.length_map, List.length_nil]; omega) (fun _ _ h' => h')) ?_
      rw [List.nil_append]
      clear hn
      (try simp only [push_cast, seval, *])
      repeat' (first
    | refine AW_seq_kn fun K hK => ?_
    | refine AW_block ?_
    | ((first
      | refine AW_region_draw (id := 9) E0 (fun f => [].contains f) dLDA1 dADA1 mixed (by kernel_rfl) ?_
      | refine AW_region E0 ?_ | refine AW_ret ?_ | refine AW_exit ?_ | refine AW_skip ?_ | unfold retQ); try simp only [push_cast, seval, *])
    | (apply AW_cond; (case hc => (simp only [push_cast, seval]; rfl)); all_goals (intro hc; first | (exfalso; simp only [push_cast, seval, *] at hc; done) | (exact absurd hc (by decide)) | ((try first | rw [Bool.not_true] at hc | rw [Bool.not_false] at hc); first | (with_reducible replace hc := tTT hc); clear hc | (with_reducible replace hc := tFF hc); clear hc | (have hp := hc; try simp only [decide_eq_true_eq, decide_eq_false_iff_not, bA, bB, bC, bD, bE, bF, bG, bH] at hp))))
    | (refine Kn.go hK ?_; clear hK K)
    | refine Kn.go (by assumption) ?_
    | (intro n hn; (try simp only [upd_none2, join_none_iff, ite_none, ne_eq] at hn); (try simp only [push_cast, seval, *]))
    | (intro hc)
    | fail)
      have ho2 := (unhid hoy).new h8 (.r 47 2 1 [[.c (.int .i64 task), .l 1 (bs.map by1)]])
      refine does_app1 rfl rfl rfl rfl ho2 (by simp only [upd_none2]; exact hn) hE2 hS2 hB2 hZ2 rfl (by decide) (by simp only [List.length_map, List.length_take, maxLen]; omega) (by simp only [List.length_map, List.length_take]; omega) ?_
      intro y' Hy' hoy'
      have hcs' := hoy'.cs
      have hp8 : hp n8 = none := (unhid hoy).none h8
      obtain ⟨Hz, hz1, hz2⟩ := hoy'.cut (K := hp) (le_skip0 (Heap.le_refl _) hp8)
      clear hoy' ho2 hoy
      replace hz1 := Lib.hid hz1
      replace hz2 := Lib.hid hz2
      (try simp only [push_cast, seval, *])
      repeat' (first
    | refine AW_seq_kn fun K hK => ?_
    | refine AW_block ?_
    | ((first
      | refine AW_region_draw (id := 9) E0 (fun f => [].contains f) dLDA1 dADA1 mixed (by kernel_rfl) ?_
      | refine AW_region E0 ?_ | refine AW_ret ?_ | refine AW_exit ?_ | refine AW_skip ?_ | unfold retQ); try simp only [push_cast, seval, *])
    | (apply AW_cond; (case hc => (simp only [push_cast, seval]; rfl)); all_goals (intro hc; first | (exfalso; simp only [push_cast, seval, *] at hc; done) | (exact absurd hc (by decide)) | ((try first | rw [Bool.not_true] at hc | rw [Bool.not_false] at hc); first | (with_reducible replace hc := tTT hc); clear hc | (with_reducible replace hc := tFF hc); clear hc | (have hp := hc; try simp only [decide_eq_true_eq, decide_eq_false_iff_not, bA, bB, bC, bD, bE, bF, bG, bH] at hp))))
    | (refine Kn.go hK ?_; clear hK K)
    | refine Kn.go (by assumption) ?_
    | (intro n hn; (try simp only [upd_none2, join_none_iff, ite_none, ne_eq] at hn); (try simp only [push_cast, seval, *]))
    | (intro hc)
    | fail)
      exact ⟨(y', Hz), by rw [unhid hsw]; exact unhid hz2, by first | exact rfl | (first | trivial | (simp only [push_cast, seval, *]; done)), unhid hz1⟩
    · rintro ⟨y, Hy⟩ hoy
      simp only [List.take_length] at hoy ⊢
      have hycs := hoy.cs
      repeat' (first
    | (refine AW_atR (id := 11) ?_)
    | refine AW_seq_kn fun K hK => ?_
    | refine AW_block ?_
    | ((first
      | refine AW_region_draw (id := 9) E0 (fun f => [].contains f) dLDA1 dADA1 mixed (by kernel_rfl) ?_
      | refine AW_region E0 ?_ | refine AW_ret ?_ | refine AW_exit ?_ | refine AW_skip ?_ | unfold retQ); try simp only [push_cast, seval, *])
    | (apply AW_cond; (case hc => (simp only [push_cast, seval]; rfl)); all_goals (intro hc; first | (exfalso; simp only [push_cast, seval, *] at hc; done) | (exact absurd hc (by decide)) | ((try first | rw [Bool.not_true] at hc | rw [Bool.not_false] at hc); first | (with_reducible replace hc := tTT hc); clear hc | (with_reducible replace hc := tFF hc); clear hc | (have hp := hc; try simp only [decide_eq_true_eq, decide_eq_false_iff_not, bA, bB, bC, bD, bE, bF, bG, bH] at hp))))
    | (refine Kn.go hK ?_; clear hK K)
    | refine Kn.go (by assumption) ?_
    | (intro n hn; (try simp only [upd_none2, join_none_iff, ite_none, ne_eq] at hn); (try simp only [push_cast, seval, *]))
    | (intro hc)
    | fail)
      refine ⟨?_⟩
      refine AW_own hoy [(1, .p n1 6 0 0), (2, .p n2 6 0 0), (3, x), (5, .p n 4 0 0), (6, .l 2 (ac.map Ak.av)), (10, .l 4 (l.map Pd.av)), (11, ci l.length), (12, ci k)] (by ((try simp only [SlO, push_cast, seval, *]); done)) (Heap.le_refl _) ?_
      rw [unhid hhp]
      have hrl : ((l.take k).map Pd.av).length ≤ 3 := by simp; omega
      generalize ac.map Ak.av = Z at *
      clear hoy hycs kp q1 hhp
      repeat' (first
    | refine AW_seq_kn fun K hK => ?_
    | refine AW_block ?_
    | ((first
      | refine AW_region_draw (id := 9) E0 (fun f => [].contains f) dLDA1 dADA1 mixed (by kernel_rfl) ?_
      | refine AW_region E0 ?_ | refine AW_ret ?_ | refine AW_exit ?_ | refine AW_skip ?_ | unfold retQ); try simp only [push_cast, seval, *])
    | (apply AW_cond; (case hc => (simp only [push_cast, seval]; rfl)); all_goals (intro hc; first | (exfalso; simp only [push_cast, seval, *] at hc; done) | (exact absurd hc (by decide)) | ((try first | rw [Bool.not_true] at hc | rw [Bool.not_false] at hc); first | (with_reducible replace hc := tTT hc); clear hc | (with_reducible replace hc := tFF hc); clear hc | (have hp := hc; try simp only [decide_eq_true_eq, decide_eq_false_iff_not, bA, bB, bC, bD, bE, bF, bG, bH] at hp))))
    | (refine Kn.go hK ?_; clear hK K)
    | refine Kn.go (by assumption) ?_
    | (intro n hn; (try simp only [upd_none2, join_none_iff, ite_none, ne_eq] at hn); (try simp only [push_cast, seval, *]))
    | (intro hc)
    | fail)
      have ho2 := (unhid ho).new hHsn (.r 61 4 1 [[.c (.int .u64 num), .c (.int .i64 bg), .c (.bool sv), .l 2 Z]])
      refine does_app1 rfl rfl rfl rfl ho2 (by simp only [upd_none2]; exact hn) hE4 hS4 hB4 hZ4 rfl (by decide) (by simp only [maxLen]; omega) (by omega) ?_
      intro x' Hx' hox'
      have hcs' := hox'.cs
      obtain ⟨Hz, hz1, hz2⟩ := hox'.cut (K := base) (le_skip0 (Heap.le_refl _) ((unhid ho).none hHsn))
      clear hox' ho2 ho
      replace hz1 := Lib.hid hz1
      replace hz2 := Lib.hid hz2
      (try simp only [push_cast, seval, *])
      repeat' (first
    | refine AW_seq_kn fun K hK => ?_
    | refine AW_block ?_
    | ((first
      | refine AW_region_draw (id := 9) E0 (fun f => [].contains f) dLDA1 dADA1 mixed (by kernel_rfl) ?_
      | refine AW_region E0 ?_ | refine AW_ret ?_ | refine AW_exit ?_ | refine AW_skip ?_ | unfold retQ); try simp only [push_cast, seval, *])
    | (apply AW_cond; (case hc => (simp only [push_cast, seval]; rfl)); all_goals (intro hc; first | (exfalso; simp only [push_cast, seval, *] at hc; done) | (exact absurd hc (by decide)) | ((try first | rw [Bool.not_true] at hc | rw [Bool.not_false] at hc); first | (with_reducible replace hc := tTT hc); clear hc | (with_reducible replace hc := tFF hc); clear hc | (have hp := hc; try simp only [decide_eq_true_eq, decide_eq_false_iff_not, bA, bB, bC, bD, bE, bF, bG, bH] at hp))))
    | (refine Kn.go hK ?_; clear hK K)
    | refine Kn.go (by assumption) ?_
    | (intro n hn; (try simp only [upd_none2, join_none_iff, ite_none, ne_eq] at hn); (try simp only [push_cast, seval, *]))
    | (intro hc)
    | fail)
      exact ⟨(x', Hz), by rw [unhid hsn]; exact unhid hz2, by first | exact rfl | (first | trivial | (simp only [push_cast, seval, *]; done)), unhid hz1⟩
  · rintro ⟨x, Hs⟩ ho
    simp only [List.take_length] at ho ⊢
    have k1 := ho.get b1
    have k2 := ho.get b2
    have hxcs := ho.cs
    have hxone := ho.one
    obtain ⟨S2, v1, v2, v3⟩ := (Loc.own _ _ _ _).cutx ho (unhid hle)
    have v4 := v3 n1 (by rw [b1]; simp) (unhid hHn1)
    have v5 := v3 n2 (by rw [b2]; simp) (unhid hHn2)
    replace v1 := Lib.hid v1
    replace v2 := Lib.hid v2
    replace v4 := Lib.hid v4
    replace v5 := Lib.hid v5
    clear ho v3
    repeat' (first
    | refine AW_seq_kn fun K hK => ?_
    | refine AW_block ?_
    | ((first
      | refine AW_region_draw (id := 9) E0 (fun f => [].contains f) dLDA1 dADA1 mixed (by kernel_rfl) ?_
      | refine AW_region E0 ?_ | refine AW_ret ?_ | refine AW_exit ?_ | refine AW_skip ?_ | unfold retQ); try simp only [push_cast, seval, *])
    | (apply AW_cond; (case hc => (simp only [push_cast, seval]; rfl)); all_goals (intro hc; first | (exfalso; simp only [push_cast, seval, *] at hc; done) | (exact absurd hc (by decide)) | ((try first | rw [Bool.not_true] at hc | rw [Bool.not_false] at hc); first | (with_reducible replace hc := tTT hc); clear hc | (with_reducible replace hc := tFF hc); clear hc | (have hp := hc; try simp only [decide_eq_true_eq, decide_eq_false_iff_not, bA, bB, bC, bD, bE, bF, bG, bH] at hp))))
    | (refine Kn.go hK ?_; clear hK K)
    | refine Kn.go (by assumption) ?_
    | (intro n hn; (try simp only [upd_none2, join_none_iff, ite_none, ne_eq] at hn); (try simp only [push_cast, seval, *]))
    | (intro hc)
    | fail)
    exact ⟨_, S2, Weak.less (by repeat' (first | exact unhid v1 | refine le_skip ?_ (unhid v4) | refine le_skip ?_ (unhid v5))), x, rfl, unhid v2⟩
theorem Copy_p (c : Cd) (hc : c.small) : Pure Try.prog 22 [.g (Cd.av c)] (.g (Cd.av c)) := fun H =>
  ACall.weak ((Copy_b c hc H).mono fun r H' ⟨y, e, ho⟩ => ⟨_, H, by rw [e, ← Cd.cl_av]; exact (OwnL.wp ho).weak fun F F' hF hi => Imp_cl hF c hi.1 rfl, rfl, rfl⟩)
end Go.Proofs.Ytlbdpnlmdcajbaa
