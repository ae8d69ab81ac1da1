/- short. -/
import Derived.Test.YtlbdpnlmdcajbaaH
import Derived.Test.YtlbdpnlmdcajbaaZA
namespace Go.Proofs.Ytlbdpnlmdcajbaa
open Go.RowKit
open Nat renaming reduceEqDiff → nA, reduceLT → nB, reduceLeDiff → nC, reduceAdd → nD, reduceMul → nE, reduceSub → nF, reduceBEq → nG
open Int renaming reduceToNat → iA, reduceLT → iB, reduceLE → iC, reduceEq → iD
open Bool renaming and_eq_true → bA, or_eq_true → bB, or_eq_false_iff → bC, and_eq_false_iff → bD, not_eq_true' → bE, not_eq_false' → bF, not_true → bG, not_false → bH
set_option linter.all false
set_option maxHeartbeats 4000000
attribute [local irreducible] AW Does ACall tE tS tB tZ
set_option maxRecDepth 5000

theorem le_skip0 {A B : Heap} {n : Nat} {k : Blk} (h : Heap.le A B) (hn : A n = none) : Heap.le A (upd B n k) := fun q b hq => by
  have : q ≠ n := by rintro rfl; rw [hn] at hq; cases hq
  rw [upd_ne this]; exact h q b hq
def shA (a : Ak) : Ak := { a with bytes := a.bytes.take 3001 }
def shP (p : Pd) : Pd := { p with acks := (p.acks.take 17).map shA }
def shortS (c : Cd) : Cd := { c with pend := (c.pend.take 3).map shP }
theorem short_p (c : Cd) (hc : c.good) : Pure Try.prog 17 [.g (Cd.av c)] (.g (Cd.av (shortS c))) := by
  intro H
  obtain ⟨e, k0, t, a, s, l⟩ := c
  obtain ⟨-, hl, hg⟩ := hc
  simp only at hl hg
  unfold maxLen at hl
  have hav : Cd.av ⟨e, k0, t, a, s, l⟩ = [.c (.int .u64 e), .c (.int .u64 k0), .c (.int .i64 t), .c (.int .i64 a), .c (.int .i64 s), .l 4 (l.map Pd.av)] := rfl
  have hav2 : Cd.av (shortS ⟨e, k0, t, a, s, l⟩) = [.c (.int .u64 e), .c (.int .u64 k0), .c (.int .i64 t), .c (.int .i64 a), .c (.int .i64 s), .l 4 (((l.take 3).map shP).map Pd.av)] := rfl
  rw [hav, hav2]
  clear hav hav2
  replace hg := Lib.hid hg
  refine ACall_of' Try.func17 rfl (Ent_of Try.func17 (by kernel_rfl) rfl) (by simp [Try.ntmps17]) ?_; simp only [Try.ntmps17, Try.results17]
  repeat' (first
    | (refine AW_atB (id := 2) ?_)
    | refine AW_seq_kn fun K hK => ?_
    | refine AW_block ?_
    | ((first
      | refine AW_region E0 ?_ | refine AW_ret ?_ | refine AW_exit ?_ | refine AW_skip ?_ | unfold retQ); try simp only [push_cast, seval, *])
    | (apply AW_cond; (case hc => (simp only [push_cast, seval]; rfl)); all_goals (intro hc; first | (exfalso; simp only [push_cast, seval, *] at hc; done) | (exact absurd hc (by decide)) | ((try first | rw [Bool.not_true] at hc | rw [Bool.not_false] at hc); first | (with_reducible replace hc := tTT hc); clear hc | (with_reducible replace hc := tFF hc); clear hc | (have hp := hc; try simp only [decide_eq_true_eq, decide_eq_false_iff_not, bA, bB, bC, bD, bE, bF, bG, bH] at hp))))
    | (refine Kn.go hK ?_; clear hK K)
    | refine Kn.go (by assumption) ?_
    | (intro n hn; (try simp only [upd_none2, join_none_iff, ite_none, ne_eq] at hn); (try simp only [push_cast, seval, *]))
    | (intro hc)
    | fail)
  refine ⟨?_⟩
  rename_i n1 h1
  generalize n = n2 at *
  have n12 : ¬ n1 = n2 := hn.1.2
  have n21 : ¬ n2 = n1 := hn.1.1
  obtain ⟨base, hbase⟩ : ∃ base : Heap, base = upd (upd H n1 (.r 30 6 1 [[.c (.int .u64 e), .c (.int .u64 k0), .c (.int .i64 t), .c (.int .i64 a), .c (.int .i64 s), .l 4 (l.map Pd.av)]])) n2 (.r 30 6 1 [[.c (.int .u64 0), .c (.int .u64 0), .c (.int .i64 0), .c (.int .i64 0), .c (.int .i64 0), .c (.slice none 0 0)]]) := ⟨_, rfl⟩
  have b1 : base n1 = some (.r 30 6 1 [[.c (.int .u64 e), .c (.int .u64 k0), .c (.int .i64 t), .c (.int .i64 a), .c (.int .i64 s), .l 4 (l.map Pd.av)]]) := by rw [hbase]; simp only [push_cast, seval, upd_get, *]
  have b2 : base n2 = some (.r 30 6 1 [[.c (.int .u64 0), .c (.int .u64 0), .c (.int .i64 0), .c (.int .i64 0), .c (.int .i64 0), .c (.slice none 0 0)]]) := by rw [hbase]; exact upd_same _ _ _
  have hle : Heap.le H base := by rw [hbase]; (repeat' (first | exact Heap.le_refl _ | refine hle_upd2 ?_ _ _ | (refine Heap.le_new ?_ ?_; rotate_left 1; focus (first | assumption | (simp only [upd_none2, upd_get, ne_eq, push_cast, seval, *]; done) | (simp [upd_get, *]; done)))))
  rw [← hbase]
  have hHn1 := h1
  have hHn2 := hn.2
  clear hbase h1 hn
  replace hle := Lib.hid hle
  refine AW_seqX (σ := AV × Heap) (fun s => OwnL s.2 s.1 61 4 (((l.take 3).map shP).map Pd.av) base) (fun s => [(1, .p n1 6 0 0), (2, .p n2 6 0 0), (3, s.1)]) (fun s => s.2) ?_ ?_
  · repeat' (first
    | refine AW_seq_kn fun K hK => ?_
    | refine AW_block ?_
    | ((first
      | refine AW_region E0 ?_ | refine AW_ret ?_ | refine AW_exit ?_ | refine AW_skip ?_ | unfold retQ); try simp only [push_cast, seval, *])
    | (apply AW_cond; (case hc => (simp only [push_cast, seval]; rfl)); all_goals (intro hc; first | (exfalso; simp only [push_cast, seval, *] at hc; done) | (exact absurd hc (by decide)) | ((try first | rw [Bool.not_true] at hc | rw [Bool.not_false] at hc); first | (with_reducible replace hc := tTT hc); clear hc | (with_reducible replace hc := tFF hc); clear hc | (have hp := hc; try simp only [decide_eq_true_eq, decide_eq_false_iff_not, bA, bB, bC, bD, bE, bF, bG, bH] at hp))))
    | (refine Kn.go hK ?_; clear hK K)
    | refine Kn.go (by assumption) ?_
    | (intro n hn; (try simp only [upd_none2, join_none_iff, ite_none, ne_eq] at hn); (try simp only [push_cast, seval, *]))
    | (intro hc)
    | fail)
    refine AW_loopX (σ := AV × Heap) l.length (fun k s => k ≤ 3 ∧ OwnL s.2 s.1 61 4 (((l.take k).map shP).map Pd.av) base) (fun k s => [(1, .p n1 6 0 0), (2, .p n2 6 0 0), (3, s.1), (10, .l 4 (l.map Pd.av)), (11, ci l.length), (12, ci k)]) (fun k s => s.2) (.c (.slice none 0 0), base) ⟨by omega, OwnL.nil _ _ _⟩ ?_ ?_ ?_ ?_
    · (first | trivial | (simp only [push_cast, seval, *]; done))
    · exact Heap.le_refl _
    · rintro k ⟨x, Hs⟩ hk ⟨hk3, ho⟩
      simp only at ho ⊢
      have hp := List.getElem?_eq_getElem (l := l) hk; generalize l[k] = p at hp; have hpm := List.mem_of_getElem? hp; have hkl : (k : Int) < l.length := (by omega); have hkw : IntKind.i64.wrap ((k : Int) + 1) = (k : Int) + 1 := wrap_i64 (by omega) (by omega)
      have hgp := unhid hg p hpm
      have hxcs := ho.cs
      by_cases hk2 : (2 : Int) < k
      · replace ho := Lib.hid ho
        clear hgp hpm
        repeat' (first
    | refine AW_seq_kn fun K hK => ?_
    | refine AW_block ?_
    | ((first
      | refine AW_region E0 ?_ | refine AW_ret ?_ | refine AW_exit ?_ | refine AW_skip ?_ | unfold retQ); try simp only [push_cast, seval, *])
    | (apply AW_cond; (case hc => (simp only [push_cast, seval]; rfl)); all_goals (intro hc; first | (exfalso; simp only [push_cast, seval, *] at hc; done) | (exact absurd hc (by decide)) | ((try first | rw [Bool.not_true] at hc | rw [Bool.not_false] at hc); first | (with_reducible replace hc := tTT hc); clear hc | (with_reducible replace hc := tFF hc); clear hc | (have hp := hc; try simp only [decide_eq_true_eq, decide_eq_false_iff_not, bA, bB, bC, bD, bE, bF, bG, bH] at hp))))
    | (refine Kn.go hK ?_; clear hK K)
    | refine Kn.go (by assumption) ?_
    | (intro n hn; (try simp only [upd_none2, join_none_iff, ite_none, ne_eq] at hn); (try simp only [push_cast, seval, *]))
    | (intro hc)
    | fail)
        refine ⟨(x, Hs), ?_, by first | exact rfl | (first | trivial | (simp only [push_cast, seval, *]; done)), by first | trivial | (repeat' (first | exact Heap.le_refl _ | refine hle_upd2 ?_ _ _ | (refine Heap.le_new ?_ ?_; rotate_left 1; focus (first | assumption | (simp only [upd_none2, upd_get, ne_eq, push_cast, seval, *]; done) | (simp [upd_get, *]; done)))))⟩
        have e3 : k = 3 := by omega
        have := unhid ho
        rwa [e3] at this
      obtain ⟨num, bg, sv, ac⟩ := p
      have hav : Pd.av ⟨num, bg, sv, ac⟩ = [.c (.int .u64 num), .c (.int .i64 bg), .c (.bool sv), .l 2 (ac.map Ak.av)] := rfl
      obtain ⟨-, -, hacl, hacg⟩ := hgp
      simp only at hacl hacg
      unfold maxLen at hacl
      replace ho := Lib.hid ho
      replace hacg := Lib.hid hacg
      clear hpm
      repeat' (first
    | refine AW_seq_kn fun K hK => ?_
    | refine AW_block ?_
    | ((first
      | refine AW_region E0 ?_ | refine AW_ret ?_ | refine AW_exit ?_ | refine AW_skip ?_ | unfold retQ); try simp only [push_cast, seval, *])
    | (apply AW_cond; (case hc => (simp only [push_cast, seval]; rfl)); all_goals (intro hc; first | (exfalso; simp only [push_cast, seval, *] at hc; done) | (exact absurd hc (by decide)) | ((try first | rw [Bool.not_true] at hc | rw [Bool.not_false] at hc); first | (with_reducible replace hc := tTT hc); clear hc | (with_reducible replace hc := tFF hc); clear hc | (have hp := hc; try simp only [decide_eq_true_eq, decide_eq_false_iff_not, bA, bB, bC, bD, bE, bF, bG, bH] at hp))))
    | (refine Kn.go hK ?_; clear hK K)
    | refine Kn.go (by assumption) ?_
    | (intro n hn; (try simp only [upd_none2, join_none_iff, ite_none, ne_eq] at hn); (try simp only [push_cast, seval, *]))
    | (intro hc)
    | fail)
      have hHsn := hn
      have n1n : ¬ n1 = n := by rintro rfl; have := (unhid ho).get b1; rw [hn] at this; cases this
      have n2n : ¬ n2 = n := by rintro rfl; have := (unhid ho).get b2; rw [hn] at this; cases this
      obtain ⟨hp, hhp⟩ : ∃ hp : Heap, hp = upd Hs n (.r 61 4 1 [[.c (.int .u64 num), .c (.int .i64 bg), .c (.bool sv), .l 2 (ac.map Ak.av)]]) := ⟨_, rfl⟩
      rw [← hhp]
      have kp : hp n = some (.r 61 4 1 [[.c (.int .u64 num), .c (.int .i64 bg), .c (.bool sv), .l 2 (ac.map Ak.av)]]) := by rw [hhp, upd_same]
      have q1 : hp n1 = some (.r 30 6 1 [[.c (.int .u64 e), .c (.int .u64 k0), .c (.int .i64 t), .c (.int .i64 a), .c (.int .i64 s), .l 4 (l.map Pd.av)]]) := by rw [hhp, upd_ne n1n]; exact (unhid ho).get b1
      replace hhp := Lib.hid hhp
      refine AW_loopX (σ := AV × Heap) ac.length (fun j s => OwnL s.2 s.1 47 2 ((((ac.take j).take 17).map shA).map Ak.av) hp) (fun j s => [(1, .p n1 6 0 0), (2, .p n2 6 0 0), (3, x), (5, .p n 4 0 0), (6, s.1), (10, .l 4 (l.map Pd.av)), (11, ci l.length), (12, ci k), (20, .l 2 (ac.map Ak.av)), (21, ci ac.length), (22, ci j)]) (fun j s => s.2) (.c (.slice none 0 0), hp) (OwnL.nil _ _ _) ?_ ?_ ?_ ?_
      · (first | trivial | (simp only [push_cast, seval, *]; done))
      · exact Heap.le_refl _
      · rintro j ⟨y, Hy⟩ hj hoy
        simp only at hoy ⊢
        have hw := List.getElem?_eq_getElem (l := ac) hj; generalize ac[j] = w at hw; have hwm := List.mem_of_getElem? hw; have hjl : (j : Int) < ac.length := (by omega); have hjw : IntKind.i64.wrap ((j : Int) + 1) = (j : Int) + 1 := wrap_i64 (by omega) (by omega)
        have hgw := unhid hacg w hwm
        have hycs := hoy.cs
        have hyone := hoy.one
        obtain ⟨task, bs⟩ := w
        have hav : Ak.av ⟨task, bs⟩ = [.c (.int .i64 task), .l 1 (bs.map by1)] := rfl
        by_cases hj16 : (j : Int) ≤ 16
        rotate_left
        · have e17 : ((ac.take (j + 1)).take 17) = ((ac.take j).take 17) := by rw [List.take_take, List.take_take]; congr 1; omega
          rw [e17]
          replace hoy := Lib.hid hoy
          clear hwm hgw e17
          repeat' (first
    | refine AW_seq_kn fun K hK => ?_
    | refine AW_block ?_
    | ((first
      | refine AW_region E0 ?_ | refine AW_ret ?_ | refine AW_exit ?_ | refine AW_skip ?_ | unfold retQ); try simp only [push_cast, seval, *])
    | (apply AW_cond; (case hc => (simp only [push_cast, seval]; rfl)); all_goals (intro hc; first | (exfalso; simp only [push_cast, seval, *] at hc; done) | (exact absurd hc (by decide)) | ((try first | rw [Bool.not_true] at hc | rw [Bool.not_false] at hc); first | (with_reducible replace hc := tTT hc); clear hc | (with_reducible replace hc := tFF hc); clear hc | (have hp := hc; try simp only [decide_eq_true_eq, decide_eq_false_iff_not, bA, bB, bC, bD, bE, bF, bG, bH] at hp))))
    | (refine Kn.go hK ?_; clear hK K)
    | refine Kn.go (by assumption) ?_
    | (intro n hn; (try simp only [upd_none2, join_none_iff, ite_none, ne_eq] at hn); (try simp only [push_cast, seval, *]))
    | (intro hc)
    | fail)
          exact ⟨(y, Hy), unhid hoy, by first | exact rfl | (first | trivial | (simp only [push_cast, seval, *]; done)), by first | trivial | (repeat' (first | exact Heap.le_refl _ | refine hle_upd2 ?_ _ _ | (refine Heap.le_new ?_ ?_; rotate_left 1; focus (first | assumption | (simp only [upd_none2, upd_get, ne_eq, push_cast, seval, *]; done) | (simp [upd_get, *]; done)))))⟩
        obtain ⟨-, hbl, -⟩ := hgw
        simp only at hbl
        unfold maxLen at hbl
        obtain ⟨mm, hmm, hmt, hml⟩ : ∃ mm : Nat, (if (3001 : Int) < bs.length then (3001 : Int) else (bs.length : Int)) = (mm : Int) ∧ bs.take 3001 = bs.take mm ∧ mm ≤ bs.length := by
          by_cases hc : (3001 : Int) < bs.length
          · exact ⟨3001, by rw [if_pos hc]; rfl, rfl, by omega⟩
          · exact ⟨bs.length, by rw [if_neg hc], by rw [List.take_length, List.take_of_length_le (by omega)], Nat.le_refl _⟩
        have hmm3 : mm ≤ 3001 := by
          rcases Nat.lt_or_ge mm 3002 with h | h
          · omega
          · exfalso; split at hmm <;> omega
        have hmI : (mm : Int) ≤ bs.length := by omega
        have e17 : ((ac.take (j + 1)).take 17).map shA = ((ac.take j).take 17).map shA ++ [⟨task, bs.take mm⟩] := by
          have h1 : (ac.take (j + 1)).take 17 = ac.take (j + 1) := List.take_of_length_le (by simp; omega)
          have h2 : (ac.take j).take 17 = ac.take j := List.take_of_length_le (by simp; omega)
          rw [h1, h2, take_snoc hw, List.map_append]
          simp [shA, hmt]
        rw [e17]
        have hyl : (((ac.take j).take 17).map shA).length ≤ 17 := by simp; omega
        generalize ((ac.take j).take 17).map shA = Y at *
        replace hoy := Lib.hid hoy
        clear hwm e17 hmt
        repeat' (first
    | refine AW_seq_kn fun K hK => ?_
    | refine AW_block ?_
    | ((first
      | refine AW_region E0 ?_ | refine AW_ret ?_ | refine AW_exit ?_ | refine AW_skip ?_ | unfold retQ); try simp only [push_cast, seval, *])
    | (apply AW_cond; (case hc => (simp only [push_cast, seval]; rfl)); all_goals (intro hc; first | (exfalso; simp only [push_cast, seval, *] at hc; done) | (exact absurd hc (by decide)) | ((try first | rw [Bool.not_true] at hc | rw [Bool.not_false] at hc); first | (with_reducible replace hc := tTT hc); clear hc | (with_reducible replace hc := tFF hc); clear hc | (have hp := hc; try simp only [decide_eq_true_eq, decide_eq_false_iff_not, bA, bB, bC, bD, bE, bF, bG, bH] at hp))))
    | (refine Kn.go hK ?_; clear hK K)
    | refine Kn.go (by assumption) ?_
    | (intro n hn; (try simp only [upd_none2, join_none_iff, ite_none, ne_eq] at hn); (try simp only [push_cast, seval, *]))
    | (intro hc)
    | fail)
        rename_i n8 h8
        refine does_cloneL rfl rfl rfl rfl (by simp only [upd_none2]; exact hn) tE45 tS5 tB5 tZ5 rfl (by decide) ?_ ?_ ?_
        · simp only [List.length_take, List.length_map, maxLen]; omega
        · simp only [List.length_take, List.length_map]; omega
        rw [← List.map_take]
        clear hn
        (try simp only [push_cast, seval, *])
        repeat' (first
    | refine AW_seq_kn fun K hK => ?_
    | refine AW_block ?_
    | ((first
      | refine AW_region E0 ?_ | refine AW_ret ?_ | refine AW_exit ?_ | refine AW_skip ?_ | unfold retQ); try simp only [push_cast, seval, *])
    | (apply AW_cond; (case hc => (simp only [push_cast, seval]; rfl)); all_goals (intro hc; first | (exfalso; simp only [push_cast, seval, *] at hc; done) | (exact absurd hc (by decide)) | ((try first | rw [Bool.not_true] at hc | rw [Bool.not_false] at hc); first | (with_reducible replace hc := tTT hc); clear hc | (with_reducible replace hc := tFF hc); clear hc | (have hp := hc; try simp only [decide_eq_true_eq, decide_eq_false_iff_not, bA, bB, bC, bD, bE, bF, bG, bH] at hp))))
    | (refine Kn.go hK ?_; clear hK K)
    | refine Kn.go (by assumption) ?_
    | (intro n hn; (try simp only [upd_none2, join_none_iff, ite_none, ne_eq] at hn); (try simp only [push_cast, seval, *]))
    | (intro hc)
    | fail)
        have ho2 := (unhid hoy).new h8 (.r 47 2 1 [[.c (.int .i64 task), .l 1 ((bs.take mm).map by1)]])
        refine does_app1 rfl rfl rfl rfl ho2 (by simp only [upd_none2]; exact hn) tE50 tS47 tB47 tZ47 rfl (by decide) ?_ ?_ ?_
        · simp only [List.length_map, maxLen]; omega
        · simp only [List.length_map]; omega
        intro y' Hy' hoy'
        have hcs' := hoy'.cs
        have hp8 : hp n8 = none := (unhid hoy).none h8
        obtain ⟨Hz, hz1, hz2⟩ := hoy'.cut (K := hp) (le_skip0 (Heap.le_refl _) hp8)
        clear hoy' ho2 hoy
        replace hz1 := Lib.hid hz1
        replace hz2 := Lib.hid hz2
        (try simp only [push_cast, seval, *])
        repeat' (first
    | refine AW_seq_kn fun K hK => ?_
    | refine AW_block ?_
    | ((first
      | refine AW_region E0 ?_ | refine AW_ret ?_ | refine AW_exit ?_ | refine AW_skip ?_ | unfold retQ); try simp only [push_cast, seval, *])
    | (apply AW_cond; (case hc => (simp only [push_cast, seval]; rfl)); all_goals (intro hc; first | (exfalso; simp only [push_cast, seval, *] at hc; done) | (exact absurd hc (by decide)) | ((try first | rw [Bool.not_true] at hc | rw [Bool.not_false] at hc); first | (with_reducible replace hc := tTT hc); clear hc | (with_reducible replace hc := tFF hc); clear hc | (have hp := hc; try simp only [decide_eq_true_eq, decide_eq_false_iff_not, bA, bB, bC, bD, bE, bF, bG, bH] at hp))))
    | (refine Kn.go hK ?_; clear hK K)
    | refine Kn.go (by assumption) ?_
    | (intro n hn; (try simp only [upd_none2, join_none_iff, ite_none, ne_eq] at hn); (try simp only [push_cast, seval, *]))
    | (intro hc)
    | fail)
        exact ⟨(y', Hz), by rw [List.map_append]; exact unhid hz2, by first | exact rfl | (first | trivial | (simp only [push_cast, seval, *]; done)), unhid hz1⟩
      · rintro ⟨y, Hy⟩ hoy
        simp only [List.take_length] at hoy ⊢
        have hycs := hoy.cs
        repeat' (first
    | (refine AW_atR (id := 14) ?_)
    | refine AW_seq_kn fun K hK => ?_
    | refine AW_block ?_
    | ((first
      | refine AW_region E0 ?_ | refine AW_ret ?_ | refine AW_exit ?_ | refine AW_skip ?_ | unfold retQ); try simp only [push_cast, seval, *])
    | (apply AW_cond; (case hc => (simp only [push_cast, seval]; rfl)); all_goals (intro hc; first | (exfalso; simp only [push_cast, seval, *] at hc; done) | (exact absurd hc (by decide)) | ((try first | rw [Bool.not_true] at hc | rw [Bool.not_false] at hc); first | (with_reducible replace hc := tTT hc); clear hc | (with_reducible replace hc := tFF hc); clear hc | (have hp := hc; try simp only [decide_eq_true_eq, decide_eq_false_iff_not, bA, bB, bC, bD, bE, bF, bG, bH] at hp))))
    | (refine Kn.go hK ?_; clear hK K)
    | refine Kn.go (by assumption) ?_
    | (intro n hn; (try simp only [upd_none2, join_none_iff, ite_none, ne_eq] at hn); (try simp only [push_cast, seval, *]))
    | (intro hc)
    | fail)
        refine ⟨?_⟩
        refine AW_own hoy [(1, .p n1 6 0 0), (2, .p n2 6 0 0), (3, x), (5, .p n 4 0 0), (6, .l 2 (((ac.take 17).map shA).map Ak.av)), (10, .l 4 (l.map Pd.av)), (11, ci l.length), (12, ci k)] (by ((try simp only [SlO, push_cast, seval, *]); done)) (Heap.le_refl _) ?_
        rw [unhid hhp]
        have e17 : ((l.take (k + 1)).map shP).map Pd.av = ((l.take k).map shP).map Pd.av ++ [[.c (.int .u64 num), .c (.int .i64 bg), .c (.bool sv), .l 2 (((ac.take 17).map shA).map Ak.av)]] := by
          rw [take_snoc ‹l[k]? = some _›, List.map_append, List.map_append]; rfl
        have hrl : (((l.take k).map shP).map Pd.av).length ≤ 3 := by simp; omega
        have h3 : k + 1 ≤ 3 := by omega
        generalize ((ac.take 17).map shA).map Ak.av = Z at *
        generalize ((l.take k).map shP).map Pd.av = RR at *
        replace e17 := Lib.hid e17
        clear hoy hycs kp q1 hhp
        repeat' (first
    | refine AW_seq_kn fun K hK => ?_
    | refine AW_block ?_
    | ((first
      | refine AW_region E0 ?_ | refine AW_ret ?_ | refine AW_exit ?_ | refine AW_skip ?_ | unfold retQ); try simp only [push_cast, seval, *])
    | (apply AW_cond; (case hc => (simp only [push_cast, seval]; rfl)); all_goals (intro hc; first | (exfalso; simp only [push_cast, seval, *] at hc; done) | (exact absurd hc (by decide)) | ((try first | rw [Bool.not_true] at hc | rw [Bool.not_false] at hc); first | (with_reducible replace hc := tTT hc); clear hc | (with_reducible replace hc := tFF hc); clear hc | (have hp := hc; try simp only [decide_eq_true_eq, decide_eq_false_iff_not, bA, bB, bC, bD, bE, bF, bG, bH] at hp))))
    | (refine Kn.go hK ?_; clear hK K)
    | refine Kn.go (by assumption) ?_
    | (intro n hn; (try simp only [upd_none2, join_none_iff, ite_none, ne_eq] at hn); (try simp only [push_cast, seval, *]))
    | (intro hc)
    | fail)
        have ho2 := (unhid ho).new hHsn (.r 61 4 1 [[.c (.int .u64 num), .c (.int .i64 bg), .c (.bool sv), .l 2 Z]])
        refine does_app1 rfl rfl rfl rfl ho2 (by simp only [upd_none2]; exact hn) tE28 tS61 tB61 tZ61 rfl (by decide) ?_ ?_ ?_
        · unfold maxLen; omega
        · omega
        intro x' Hx' hox'
        have hcs' := hox'.cs
        obtain ⟨Hz, hz1, hz2⟩ := hox'.cut (K := base) (le_skip0 (Heap.le_refl _) ((unhid ho).none hHsn))
        clear hox' ho2 ho
        replace hz1 := Lib.hid hz1
        replace hz2 := Lib.hid hz2
        (try simp only [push_cast, seval, *])
        repeat' (first
    | refine AW_seq_kn fun K hK => ?_
    | refine AW_block ?_
    | ((first
      | refine AW_region E0 ?_ | refine AW_ret ?_ | refine AW_exit ?_ | refine AW_skip ?_ | unfold retQ); try simp only [push_cast, seval, *])
    | (apply AW_cond; (case hc => (simp only [push_cast, seval]; rfl)); all_goals (intro hc; first | (exfalso; simp only [push_cast, seval, *] at hc; done) | (exact absurd hc (by decide)) | ((try first | rw [Bool.not_true] at hc | rw [Bool.not_false] at hc); first | (with_reducible replace hc := tTT hc); clear hc | (with_reducible replace hc := tFF hc); clear hc | (have hp := hc; try simp only [decide_eq_true_eq, decide_eq_false_iff_not, bA, bB, bC, bD, bE, bF, bG, bH] at hp))))
    | (refine Kn.go hK ?_; clear hK K)
    | refine Kn.go (by assumption) ?_
    | (intro n hn; (try simp only [upd_none2, join_none_iff, ite_none, ne_eq] at hn); (try simp only [push_cast, seval, *]))
    | (intro hc)
    | fail)
        refine ⟨(x', Hz), ?_, by first | exact rfl | (first | trivial | (simp only [push_cast, seval, *]; done)), unhid hz1⟩
        rw [unhid e17]; exact unhid hz2
    · rintro ⟨x, Hs⟩ ⟨hk3, ho⟩
      simp only [List.take_length] at ho ⊢
      have e3 : l.take 3 = l := List.take_of_length_le hk3
      have hxcs := ho.cs
      replace ho := Lib.hid ho
      repeat' (first
    | refine AW_seq_kn fun K hK => ?_
    | refine AW_block ?_
    | ((first
      | refine AW_region E0 ?_ | refine AW_ret ?_ | refine AW_exit ?_ | refine AW_skip ?_ | unfold retQ); try simp only [push_cast, seval, *])
    | (apply AW_cond; (case hc => (simp only [push_cast, seval]; rfl)); all_goals (intro hc; first | (exfalso; simp only [push_cast, seval, *] at hc; done) | (exact absurd hc (by decide)) | ((try first | rw [Bool.not_true] at hc | rw [Bool.not_false] at hc); first | (with_reducible replace hc := tTT hc); clear hc | (with_reducible replace hc := tFF hc); clear hc | (have hp := hc; try simp only [decide_eq_true_eq, decide_eq_false_iff_not, bA, bB, bC, bD, bE, bF, bG, bH] at hp))))
    | (refine Kn.go hK ?_; clear hK K)
    | refine Kn.go (by assumption) ?_
    | (intro n hn; (try simp only [upd_none2, join_none_iff, ite_none, ne_eq] at hn); (try simp only [push_cast, seval, *]))
    | (intro hc)
    | fail)
      exact ⟨(x, Hs), by simp only [e3]; exact unhid ho, by first | exact rfl | (first | trivial | (simp only [push_cast, seval, *]; done)), by first | trivial | (repeat' (first | exact Heap.le_refl _ | refine hle_upd2 ?_ _ _ | (refine Heap.le_new ?_ ?_; rotate_left 1; focus (first | assumption | (simp only [upd_none2, upd_get, ne_eq, push_cast, seval, *]; done) | (simp [upd_get, *]; done)))))⟩
  · rintro ⟨x, Hs⟩ ho
    simp only at ho ⊢
    refine AW_own ho [(1, .p n1 6 0 0), (2, .p n2 6 0 0), (3, .l 4 (((l.take 3).map shP).map Pd.av))] (by ((try simp only [SlO, push_cast, seval, *]); done)) (Heap.le_refl _) ?_
    generalize ((l.take 3).map shP).map Pd.av = Z at *
    clear ho
    repeat' (first
    | refine AW_seq_kn fun K hK => ?_
    | refine AW_block ?_
    | ((first
      | refine AW_region E0 ?_ | refine AW_ret ?_ | refine AW_exit ?_ | refine AW_skip ?_ | unfold retQ); try simp only [push_cast, seval, *])
    | (apply AW_cond; (case hc => (simp only [push_cast, seval]; rfl)); all_goals (intro hc; first | (exfalso; simp only [push_cast, seval, *] at hc; done) | (exact absurd hc (by decide)) | ((try first | rw [Bool.not_true] at hc | rw [Bool.not_false] at hc); first | (with_reducible replace hc := tTT hc); clear hc | (with_reducible replace hc := tFF hc); clear hc | (have hp := hc; try simp only [decide_eq_true_eq, decide_eq_false_iff_not, bA, bB, bC, bD, bE, bF, bG, bH] at hp))))
    | (refine Kn.go hK ?_; clear hK K)
    | refine Kn.go (by assumption) ?_
    | (intro n hn; (try simp only [upd_none2, join_none_iff, ite_none, ne_eq] at hn); (try simp only [push_cast, seval, *]))
    | (intro hc)
    | fail)
    exact ⟨_, _, Weak.less (le_skip0 (le_skip0 (unhid hle) hHn1) hHn2), rfl, rfl⟩
end Go.Proofs.Ytlbdpnlmdcajbaa
