/- Missing. -/
import Derived.Test.YtlbdpnlmdcajbaaZK
import Derived.Test.YtlbdpnlmdcajbaaW
namespace Go.Proofs.Ytlbdpnlmdcajbaa
open Go.RowKit
open Nat renaming reduceEqDiff → nA, reduceLT → nB, reduceLeDiff → nC, reduceAdd → nD, reduceMul → nE, reduceSub → nF, reduceBEq → nG
open Int renaming reduceToNat → iA, reduceLT → iB, reduceLE → iC, reduceEq → iD
open Bool renaming and_eq_true → bA, or_eq_true → bB, or_eq_false_iff → bC, and_eq_false_iff → bD, not_eq_true' → bE, not_eq_false' → bF, not_true → bG, not_false → bH
set_option linter.all false
set_option maxHeartbeats 4000000
attribute [local irreducible] AW Does ACall tE tS tB tZ
set_option maxRecDepth 5000

def ri (t : Nat) : List AV := [.c (.int .i64 t)]
def missR (c : Cd) (n : Int) : List Nat := (List.range c.tasks.toNat).filter fun t => !hasT (pdAt c n).acks t
def missS (c : Cd) (n : Int) : List Nat := if cdOk c = false then [] else if fndS c.pend n < 0 then [] else missR c n
theorem nil_weak (sz : Nat) (ad : Option Addr) (H : Heap) : Weak (.c (.slice ad 0 0)) H (.l sz []) H := Weak.imp (fun F => Imp.nil_l sz) (Heap.le_refl _)
theorem range_step (p : Nat → Bool) (k : Nat) : ((List.range (k + 1)).filter p).map ri = ((List.range k).filter p).map ri ++ if p k = true then [ri k] else [] := by
  rw [List.range_succ, List.filter_append, List.map_append]
  by_cases h : p k = true <;> simp [h]
theorem refMissing_p (c : Cd) (hl : c.pend.length ≤ maxLen) (hacks : ∀ p ∈ c.pend, p.acks.length ≤ maxLen) (hts : 0 ≤ c.tasks ∧ c.tasks ≤ 16) (nm : Int) : Pure Try.prog 27 [.g (Cd.av c), .c (.int .u64 nm)] (.l 1 ((if fndS c.pend nm < 0 then [] else missR c nm).map ri)) := by
  intro H
  have hf := refFind_p c hl nm
  have hat := fun h => fndS_at (c := c) (n := nm) h
  unfold missR
  generalize hF : fndS c.pend nm = F at *
  obtain ⟨e, k0, t, a, s, l⟩ := c
  simp only at hts hacks hl
  obtain ⟨T, rfl⟩ : ∃ T : Nat, t = (T : Int) := ⟨t.toNat, by omega⟩
  have hT16 : T ≤ 16 := by omega
  simp only [Int.toNat_natCast]
  by_cases h0 : F < 0
  · rw [if_pos h0]
    clear hat hacks
    simp only [Cd.av] at hf ⊢
    refine ACall_of' Try.func27 rfl (Ent_of Try.func27 (by kernel_rfl) rfl) (by simp [Try.ntmps27]) ?_; simp only [Try.ntmps27, Try.results27]
    repeat' (first
    | refine AW_seq_kn fun K hK => ?_
    | refine AW_block ?_
    | (refine does_call rfl rfl ?_; simp only [push_cast, seval, *]; refine ACall.monoP (hf _) ?_; (try simp only [push_cast, seval, *]))
    | ((first
      | refine AW_region E0 ?_ | refine AW_ret ?_ | refine AW_exit ?_ | refine AW_skip ?_ | unfold retQ); try simp only [push_cast, seval, *])
    | (apply AW_cond; (case hc => (simp only [push_cast, seval]; rfl)); all_goals (intro hc; first | (exfalso; simp only [push_cast, seval, *] at hc; done) | (exact absurd hc (by decide)) | ((try first | rw [Bool.not_true] at hc | rw [Bool.not_false] at hc); first | (with_reducible replace hc := tTT hc); clear hc | (with_reducible replace hc := tFF hc); clear hc | (have hp := hc; try simp only [decide_eq_true_eq, decide_eq_false_iff_not, bA, bB, bC, bD, bE, bF, bG, bH] at hp))))
    | (refine Kn.go hK ?_; clear hK K)
    | refine Kn.go (by assumption) ?_
    | (intro n hn; (try simp only [upd_none2, join_none_iff, ite_none, ne_eq] at hn); (try simp only [push_cast, seval, *]))
    | (intro hc)
    | fail)
    exact ⟨_, H, (Weak.less (by first | trivial | (simp only [push_cast, seval, *]))).trans (nil_weak 1 none H), rfl, rfl⟩
  rw [if_neg h0]
  obtain ⟨i, hi, hpi⟩ := hat h0
  have hpl := hacks _ (List.mem_of_getElem? hpi)
  have hhas := fun (j : Nat) => refHas_p _ hpl (j : Int)
  have hil := (List.getElem?_eq_some_iff.1 hpi).1
  have hiI : (i : Int) < l.length := by simpa using hil
  subst hi
  generalize pdAt ⟨e, k0, (T : Int), a, s, l⟩ nm = p at *
  obtain ⟨num, bg, sv, ac⟩ := p
  simp only at hpl hhas hpi
  have hpv : Pd.av ⟨num, bg, sv, ac⟩ = [.c (.int .u64 num), .c (.int .i64 bg), .c (.bool sv), .l 2 (ac.map Ak.av)] := rfl
  simp only [Cd.av] at hf ⊢
  clear hat hacks hF
  replace hhas := Lib.hid hhas
  refine ACall_of' Try.func27 rfl (Ent_of Try.func27 (by kernel_rfl) rfl) (by simp [Try.ntmps27]) ?_; simp only [Try.ntmps27, Try.results27]
  repeat' (first
    | refine AW_seq_kn fun K hK => ?_
    | refine AW_block ?_
    | (refine does_call rfl rfl ?_; simp only [push_cast, seval, *]; refine ACall.monoP (hf _) ?_; (try simp only [push_cast, seval, *]))
    | ((first
      | refine AW_region E0 ?_ | refine AW_ret ?_ | refine AW_exit ?_ | refine AW_skip ?_ | unfold retQ); try simp only [push_cast, seval, *])
    | (apply AW_cond; (case hc => (simp only [push_cast, seval]; rfl)); all_goals (intro hc; first | (exfalso; simp only [push_cast, seval, *] at hc; done) | (exact absurd hc (by decide)) | ((try first | rw [Bool.not_true] at hc | rw [Bool.not_false] at hc); first | (with_reducible replace hc := tTT hc); clear hc | (with_reducible replace hc := tFF hc); clear hc | (have hp := hc; try simp only [decide_eq_true_eq, decide_eq_false_iff_not, bA, bB, bC, bD, bE, bF, bG, bH] at hp))))
    | (refine Kn.go hK ?_; clear hK K)
    | refine Kn.go (by assumption) ?_
    | (intro n hn; (try simp only [upd_none2, join_none_iff, ite_none, ne_eq] at hn); (try simp only [push_cast, seval, *]))
    | (intro hc)
    | fail)
  obtain ⟨base, hbase⟩ : ∃ base : Heap, base = upd H n (.r 30 6 1 [[.c (.int .u64 e), .c (.int .u64 k0), .c (.int .i64 (T : Int)), .c (.int .i64 a), .c (.int .i64 s), .l 4 (l.map Pd.av)]]) := ⟨_, rfl⟩
  have kb : base n = some (.r 30 6 1 [[.c (.int .u64 e), .c (.int .u64 k0), .c (.int .i64 (T : Int)), .c (.int .i64 a), .c (.int .i64 s), .l 4 (l.map Pd.av)]]) := by rw [hbase, upd_same]
  have hle : Heap.le H base := by rw [hbase]; exact le_upd_new hn
  rw [← hbase]
  clear hbase hn
  replace hle := Lib.hid hle
  refine AW_loopX (σ := AV × Heap) T (fun k s => OwnL s.2 s.1 3 1 (((List.range k).filter fun t : Nat => !hasT ac (t : Int)).map ri) base) (fun k s => [(2, .p n 6 0 0), (5, .c (.int .i64 i)), (6, s.1), (14, ci T), (15, ci k)]) (fun k s => s.2) (.c (.slice none 0 0), base) (OwnL.nil _ _ _) ?_ ?_ ?_ ?_
  · (first | trivial | (simp only [push_cast, seval, *]; done))
  · exact Heap.le_refl _
  · rintro k ⟨x, Hs⟩ hk ho
    simp only at ho ⊢
    have hst := range_step (fun t : Nat => !hasT ac (t : Int)) k
    have hkI : (k : Int) < T := by omega
    have hkw : IntKind.i64.wrap ((k : Int) + 1) = (k : Int) + 1 := wrap_i64 (by omega) (by omega)
    have hxcs := ho.cs
    have hxone := ho.one
    have kn := ho.get kb
    have o1 := ne_old kn
    have hh := unhid hhas k
    have hrl : (((List.range k).filter fun t : Nat => !hasT ac (t : Int)).map ri).length ≤ 16 := by
      rw [List.length_map]
      have := List.length_filter_le (fun t : Nat => !hasT ac (t : Int)) (List.range k)
      rw [List.length_range] at this; omega
    generalize ((List.range k).filter fun t : Nat => !hasT ac (t : Int)).map ri = RR at *
    cases hB : hasT ac (k : Int)
    · rw [hB] at hh hst
      simp only [Bool.not_false, if_true] at hst
      replace ho := Lib.hid ho
      replace hst := Lib.hid hst
      clear hhas hB
      simp only [Pd.av] at hh
      repeat' (first
    | refine AW_seq_kn fun K hK => ?_
    | refine AW_block ?_
    | (refine does_call rfl rfl ?_; simp only [push_cast, seval, *]; refine ACall.monoP (hh _) ?_; (try simp only [push_cast, seval, *]))
    | ((first
      | refine AW_region E0 ?_ | refine AW_ret ?_ | refine AW_exit ?_ | refine AW_skip ?_ | unfold retQ); try simp only [push_cast, seval, *])
    | (apply AW_cond; (case hc => (simp only [push_cast, seval]; rfl)); all_goals (intro hc; first | (exfalso; simp only [push_cast, seval, *] at hc; done) | (exact absurd hc (by decide)) | ((try first | rw [Bool.not_true] at hc | rw [Bool.not_false] at hc); first | (with_reducible replace hc := tTT hc); clear hc | (with_reducible replace hc := tFF hc); clear hc | (have hp := hc; try simp only [decide_eq_true_eq, decide_eq_false_iff_not, bA, bB, bC, bD, bE, bF, bG, bH] at hp))))
    | (refine Kn.go hK ?_; clear hK K)
    | refine Kn.go (by assumption) ?_
    | (intro n hn; (try simp only [upd_none2, join_none_iff, ite_none, ne_eq] at hn); (try simp only [push_cast, seval, *]))
    | (intro hc)
    | fail)
      refine does_app1 rfl rfl rfl rfl (unhid ho) (by first | assumption | simp only [upd_none2] <;> assumption) tE65 tS3 tB3 tZ3 rfl (by decide) ?_ ?_ ?_
      · unfold maxLen; omega
      · omega
      intro x' H' ho'
      have hcs' := ho'.cs
      have hone' := ho'.one
      clear ho
      replace ho' := Lib.hid ho'
      (try simp only [push_cast, seval, *])
      repeat' (first
    | refine AW_seq_kn fun K hK => ?_
    | refine AW_block ?_
    | ((first
      | refine AW_region E0 ?_ | refine AW_ret ?_ | refine AW_exit ?_ | refine AW_skip ?_ | unfold retQ); try simp only [push_cast, seval, *])
    | (apply AW_cond; (case hc => (simp only [push_cast, seval]; rfl)); all_goals (intro hc; first | (exfalso; simp only [push_cast, seval, *] at hc; done) | (exact absurd hc (by decide)) | ((try first | rw [Bool.not_true] at hc | rw [Bool.not_false] at hc); first | (with_reducible replace hc := tTT hc); clear hc | (with_reducible replace hc := tFF hc); clear hc | (have hp := hc; try simp only [decide_eq_true_eq, decide_eq_false_iff_not, bA, bB, bC, bD, bE, bF, bG, bH] at hp))))
    | (refine Kn.go hK ?_; clear hK K)
    | refine Kn.go (by assumption) ?_
    | (intro n hn; (try simp only [upd_none2, join_none_iff, ite_none, ne_eq] at hn); (try simp only [push_cast, seval, *]))
    | (intro hc)
    | fail)
      exact ⟨(x', H'), by rw [unhid hst]; exact unhid ho', by first | exact rfl | (first | trivial | (simp only [push_cast, seval, *]; done)), by first | trivial | (repeat' (first | exact Heap.le_refl _ | refine hle_upd2 ?_ _ _ | (refine Heap.le_new ?_ ?_; rotate_left 1; focus (first | assumption | (simp only [upd_none2, upd_get, ne_eq, push_cast, seval, *]; done) | (simp [upd_get, *]; done)))))⟩
    · rw [hB] at hh hst
      simp only [Bool.not_true, Bool.false_eq_true, if_false, List.append_nil] at hst
      replace ho := Lib.hid ho
      replace hst := Lib.hid hst
      clear hhas hB
      simp only [Pd.av] at hh
      repeat' (first
    | refine AW_seq_kn fun K hK => ?_
    | refine AW_block ?_
    | (refine does_call rfl rfl ?_; simp only [push_cast, seval, *]; refine ACall.monoP (hh _) ?_; (try simp only [push_cast, seval, *]))
    | ((first
      | refine AW_region E0 ?_ | refine AW_ret ?_ | refine AW_exit ?_ | refine AW_skip ?_ | unfold retQ); try simp only [push_cast, seval, *])
    | (apply AW_cond; (case hc => (simp only [push_cast, seval]; rfl)); all_goals (intro hc; first | (exfalso; simp only [push_cast, seval, *] at hc; done) | (exact absurd hc (by decide)) | ((try first | rw [Bool.not_true] at hc | rw [Bool.not_false] at hc); first | (with_reducible replace hc := tTT hc); clear hc | (with_reducible replace hc := tFF hc); clear hc | (have hp := hc; try simp only [decide_eq_true_eq, decide_eq_false_iff_not, bA, bB, bC, bD, bE, bF, bG, bH] at hp))))
    | (refine Kn.go hK ?_; clear hK K)
    | refine Kn.go (by assumption) ?_
    | (intro n hn; (try simp only [upd_none2, join_none_iff, ite_none, ne_eq] at hn); (try simp only [push_cast, seval, *]))
    | (intro hc)
    | fail)
      exact ⟨(x, Hs), by rw [unhid hst]; exact unhid ho, by first | exact rfl | (first | trivial | (simp only [push_cast, seval, *]; done)), by first | trivial | (repeat' (first | exact Heap.le_refl _ | refine hle_upd2 ?_ _ _ | (refine Heap.le_new ?_ ?_; rotate_left 1; focus (first | assumption | (simp only [upd_none2, upd_get, ne_eq, push_cast, seval, *]; done) | (simp [upd_get, *]; done)))))⟩
  · rintro ⟨x, Hs⟩ ho
    simp only at ho ⊢
    repeat' (first
    | refine AW_seq_kn fun K hK => ?_
    | refine AW_block ?_
    | ((first
      | refine AW_region E0 ?_ | refine AW_ret ?_ | refine AW_exit ?_ | refine AW_skip ?_ | unfold retQ); try simp only [push_cast, seval, *])
    | (apply AW_cond; (case hc => (simp only [push_cast, seval]; rfl)); all_goals (intro hc; first | (exfalso; simp only [push_cast, seval, *] at hc; done) | (exact absurd hc (by decide)) | ((try first | rw [Bool.not_true] at hc | rw [Bool.not_false] at hc); first | (with_reducible replace hc := tTT hc); clear hc | (with_reducible replace hc := tFF hc); clear hc | (have hp := hc; try simp only [decide_eq_true_eq, decide_eq_false_iff_not, bA, bB, bC, bD, bE, bF, bG, bH] at hp))))
    | (refine Kn.go hK ?_; clear hK K)
    | refine Kn.go (by assumption) ?_
    | (intro n hn; (try simp only [upd_none2, join_none_iff, ite_none, ne_eq] at hn); (try simp only [push_cast, seval, *]))
    | (intro hc)
    | fail)
    exact ⟨_, H, (ho.weak fun F F' hF hi _ => hi).trans (Weak.less (unhid hle)), rfl, rfl⟩
end Go.Proofs.Ytlbdpnlmdcajbaa
