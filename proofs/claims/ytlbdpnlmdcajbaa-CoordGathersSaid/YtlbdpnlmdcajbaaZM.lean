/- coord.Missing. -/
import Derived.Test.YtlbdpnlmdcajbaaZL
namespace Go.Proofs.Ytlbdpnlmdcajbaa
open Go.RowKit
open Nat renaming reduceEqDiff → nA, reduceLT → nB, reduceLeDiff → nC, reduceAdd → nD, reduceMul → nE, reduceSub → nF, reduceBEq → nG
open Int renaming reduceToNat → iA, reduceLT → iB, reduceLE → iC, reduceEq → iD
open Bool renaming and_eq_true → bA, or_eq_true → bB, or_eq_false_iff → bC, and_eq_false_iff → bD, not_eq_true' → bE, not_eq_false' → bF, not_true → bG, not_false → bH
set_option linter.all false
set_option maxHeartbeats 4000000
attribute [local irreducible] AW Does ACall tE tS tB tZ
set_option maxRecDepth 5000

theorem cMissing_p (c : Cd) (hl : c.pend.length ≤ maxLen) (hfit : ∀ p ∈ c.pend, p.fits) (nm : Int) : Pure Try.prog 28 [.g (Cd.av c), .c (.int .u64 nm)] (.l 1 ((missS c nm).map ri)) := by
  intro H
  have hch := Check_p c hl hfit
  have hfnd := fun nb A hnb => find_l c hl nb A hnb nm
  have hat := fun h => fndS_at (c := c) (n := nm) h
  have hbd := cdOk_bd (c := c)
  have hep := cdOk_ep (c := c)
  unfold missS missR
  generalize hF : fndS c.pend nm = F at *
  generalize hok : cdOk c = ok at *
  obtain ⟨e, k0, t, a, s, l⟩ := c
  simp only at hbd hep hl
  simp only [Cd.av] at hch hfnd ⊢
  clear hfit hF
  replace hfnd := Lib.hid hfnd
  cases ok
  · rw [if_pos rfl]
    simp only [Bool.false_eq_true, if_false] at hch
    clear hat hbd hep hok
    refine ACall_of' Try.func28 rfl (Ent_of Try.func28 (by kernel_rfl) rfl) (by simp [Try.ntmps28]) ?_; simp only [Try.ntmps28, Try.results28]
    repeat' (first
    | refine AW_seq_kn fun K hK => ?_
    | refine AW_block ?_
    | (refine does_call rfl rfl ?_; simp only [push_cast, seval, *]; refine ACall.monoP (unhid hfnd _ _ (upd_same _ _ _)) ?_; (try simp only [push_cast, seval, *]))
    | (refine does_call rfl rfl ?_; simp only [push_cast, seval, *]; refine ACall.monoP (hch _) ?_; (try simp only [push_cast, seval, *]))
    | ((first
      | refine AW_region E0 ?_ | refine AW_ret ?_ | refine AW_exit ?_ | refine AW_skip ?_ | unfold retQ); try simp only [push_cast, seval, *])
    | ((first | (apply AW_cond; (case hc => (simp only [push_cast, seval]; rfl))) | (apply ER_guard; (case hb => (simp only [push_cast, seval]; rfl)))); all_goals ((intro hc; first | (exfalso; simp only [push_cast, seval, *] at hc; done) | (exact absurd hc (by decide)) | ((try first | rw [Bool.not_true] at hc | rw [Bool.not_false] at hc); first | (with_reducible replace hc := tTT hc); clear hc | (with_reducible replace hc := tFF hc); clear hc | (have hp := hc; try simp only [decide_eq_true_eq, decide_eq_false_iff_not, bA, bB, bC, bD, bE, bF, bG, bH] at hp))) <;> try simp only [push_cast, seval, *]))
    | (refine Kn.go hK ?_; clear hK K)
    | refine Kn.go (by assumption) ?_
    | (intro n hn; (try simp only [upd_none2, join_none_iff, ite_none, ne_eq] at hn); (try simp only [push_cast, seval, *]))
    | (intro hc)
    | (apply ER_blk; (case hp => rfl); (case hb => (simp only [push_cast, seval]; rfl)); (case hd => (simp only [push_cast, seval]; done)); (case h => (intro hc; simp only [push_cast, seval, *]; rfl)); simp only [push_cast, seval, *])
    | fail)
    all_goals exact ⟨_, H, (Weak.less (by first | trivial | (simp only [push_cast, seval, *]))).trans (nil_weak 1 none H), rfl, rfl⟩
  rw [if_neg (by decide)]
  simp only [if_true] at hch
  by_cases h0 : F < 0
  · rw [if_pos h0]
    clear hat hbd hep hok
    refine ACall_of' Try.func28 rfl (Ent_of Try.func28 (by kernel_rfl) rfl) (by simp [Try.ntmps28]) ?_; simp only [Try.ntmps28, Try.results28]
    repeat' (first
    | refine AW_seq_kn fun K hK => ?_
    | refine AW_block ?_
    | (refine does_call rfl rfl ?_; simp only [push_cast, seval, *]; refine ACall.monoP (unhid hfnd _ _ (upd_same _ _ _)) ?_; (try simp only [push_cast, seval, *]))
    | (refine does_call rfl rfl ?_; simp only [push_cast, seval, *]; refine ACall.monoP (hch _) ?_; (try simp only [push_cast, seval, *]))
    | ((first
      | refine AW_region E0 ?_ | refine AW_ret ?_ | refine AW_exit ?_ | refine AW_skip ?_ | unfold retQ); try simp only [push_cast, seval, *])
    | ((first | (apply AW_cond; (case hc => (simp only [push_cast, seval]; rfl))) | (apply ER_guard; (case hb => (simp only [push_cast, seval]; rfl)))); all_goals ((intro hc; first | (exfalso; simp only [push_cast, seval, *] at hc; done) | (exact absurd hc (by decide)) | ((try first | rw [Bool.not_true] at hc | rw [Bool.not_false] at hc); first | (with_reducible replace hc := tTT hc); clear hc | (with_reducible replace hc := tFF hc); clear hc | (have hp := hc; try simp only [decide_eq_true_eq, decide_eq_false_iff_not, bA, bB, bC, bD, bE, bF, bG, bH] at hp))) <;> try simp only [push_cast, seval, *]))
    | (refine Kn.go hK ?_; clear hK K)
    | refine Kn.go (by assumption) ?_
    | (intro n hn; (try simp only [upd_none2, join_none_iff, ite_none, ne_eq] at hn); (try simp only [push_cast, seval, *]))
    | (intro hc)
    | (apply ER_blk; (case hp => rfl); (case hb => (simp only [push_cast, seval]; rfl)); (case hd => (simp only [push_cast, seval]; done)); (case h => (intro hc; simp only [push_cast, seval, *]; rfl)); simp only [push_cast, seval, *])
    | fail)
    all_goals exact ⟨_, H, (Weak.less (by first | trivial | (simp only [push_cast, seval, *]))).trans (nil_weak 1 none H), rfl, rfl⟩
  rw [if_neg h0]
  obtain ⟨i, hi, hpi⟩ := hat h0
  have hpl := ((hbd rfl).2 _ (List.mem_of_getElem? hpi)).1
  have hts := hep rfl
  have hil := (List.getElem?_eq_some_iff.1 hpi).1
  have hiI : (i : Int) < l.length := by simpa using hil
  obtain ⟨T, rfl⟩ : ∃ T : Nat, t = (T : Int) := ⟨t.toNat, by omega⟩
  have hT16 : T ≤ 16 := by omega
  subst hi
  have hcf := fun (m : Nat) (k : Nat) (A : Heap) (hm : A m = some (.r 3 1 1 [[.c (.int .i64 (k : Int))]])) => cfA Ak.av (fun _ => rfl) (pdAt ⟨e, k0, (T : Int), a, s, l⟩ nm).acks (by unfold maxLen; omega) (fun x => decide (x.task = (k : Int))) 59 [.p m 1 0 0] A (fun x _ => miss1_a x k m A hm)
  simp only [Int.toNat_natCast]
  generalize pdAt ⟨e, k0, (T : Int), a, s, l⟩ nm = p at *
  obtain ⟨num, bg, sv, ac⟩ := p
  simp only at hpl hcf hpi
  have hpv : Pd.av ⟨num, bg, sv, ac⟩ = [.c (.int .u64 num), .c (.int .i64 bg), .c (.bool sv), .l 2 (ac.map Ak.av)] := rfl
  clear hat hbd hep hok hts
  replace hcf := Lib.hid hcf
  refine ACall_of' Try.func28 rfl (Ent_of Try.func28 (by kernel_rfl) rfl) (by simp [Try.ntmps28]) ?_; simp only [Try.ntmps28, Try.results28]
  repeat' (first
    | refine AW_seq_kn fun K hK => ?_
    | refine AW_block ?_
    | (refine does_call rfl rfl ?_; simp only [push_cast, seval, *]; refine ACall.monoP (unhid hfnd _ _ (upd_same _ _ _)) ?_; (try simp only [push_cast, seval, *]))
    | (refine does_call rfl rfl ?_; simp only [push_cast, seval, *]; refine ACall.monoP (hch _) ?_; (try simp only [push_cast, seval, *]))
    | ((first
      | refine AW_region E0 ?_ | refine AW_ret ?_ | refine AW_exit ?_ | refine AW_skip ?_ | unfold retQ); try simp only [push_cast, seval, *])
    | ((first | (apply AW_cond; (case hc => (simp only [push_cast, seval]; rfl))) | (apply ER_guard; (case hb => (simp only [push_cast, seval]; rfl)))); all_goals ((intro hc; first | (exfalso; simp only [push_cast, seval, *] at hc; done) | (exact absurd hc (by decide)) | ((try first | rw [Bool.not_true] at hc | rw [Bool.not_false] at hc); first | (with_reducible replace hc := tTT hc); clear hc | (with_reducible replace hc := tFF hc); clear hc | (have hp := hc; try simp only [decide_eq_true_eq, decide_eq_false_iff_not, bA, bB, bC, bD, bE, bF, bG, bH] at hp))) <;> try simp only [push_cast, seval, *]))
    | (refine Kn.go hK ?_; clear hK K)
    | refine Kn.go (by assumption) ?_
    | (intro n hn; (try simp only [upd_none2, join_none_iff, ite_none, ne_eq] at hn); (try simp only [push_cast, seval, *]))
    | (intro hc)
    | (apply ER_blk; (case hp => rfl); (case hb => (simp only [push_cast, seval]; rfl)); (case hd => (simp only [push_cast, seval]; done)); (case h => (intro hc; simp only [push_cast, seval, *]; rfl)); simp only [push_cast, seval, *])
    | fail)
  obtain ⟨base, hbase⟩ : ∃ base : Heap, base = upd H n (.r 30 6 1 [[.c (.int .u64 e), .c (.int .u64 k0), .c (.int .i64 (T : Int)), .c (.int .i64 a), .c (.int .i64 s), .l 4 (l.map Pd.av)]]) := ⟨_, rfl⟩
  have kb : base n = some (.r 30 6 1 [[.c (.int .u64 e), .c (.int .u64 k0), .c (.int .i64 (T : Int)), .c (.int .i64 a), .c (.int .i64 s), .l 4 (l.map Pd.av)]]) := by rw [hbase, upd_same]
  have hle : Heap.le H base := by rw [hbase]; exact le_upd_new hn
  rw [← hbase]
  clear hbase hn hfnd hch
  replace hle := Lib.hid hle
  refine AW_loopX (σ := AV × Heap) T (fun k s => OwnL s.2 s.1 3 1 (((List.range k).filter fun t : Nat => !hasT ac (t : Int)).map ri) base) (fun k s => [(2, .p n 6 0 0), (5, .c (.int .i64 i)), (6, s.1), (18, ci T), (19, ci k)]) (fun k s => s.2) (.c (.slice none 0 0), base) (OwnL.nil _ _ _) ?_ ?_ ?_ ?_
  · (first | trivial | (simp only [push_cast, seval, *]; done))
  · exact Heap.le_refl _
  · rintro k ⟨x, Hs⟩ hk ho
    simp only at ho ⊢
    have hst := range_step (fun t : Nat => !hasT ac (t : Int)) k
    have hkI : (k : Int) < T := by omega
    have hkw : IntKind.i64.wrap ((k : Int) + 1) = (k : Int) + 1 := wrap_i64 (by omega) (by omega)
    have hxcs := ho.cs
    have hxone := ho.one
    have kn := ho.get kb
    have o1 := ne_old kn
    have hc2 : ∀ m A, A m = some (.r 3 1 1 [[.c (.int .i64 (k : Int))]]) → ACall Try.prog 58 [.l 2 (ac.map Ak.av), .f (.func 59) [] [.p m 1 0 0]] A fun r H' => r = .c (.bool (hasT ac (k : Int))) ∧ H' = A := fun m A hm => unhid hcf m k A hm
    have hrl : (((List.range k).filter fun t : Nat => !hasT ac (t : Int)).map ri).length ≤ 16 := by
      rw [List.length_map]
      have := List.length_filter_le (fun t : Nat => !hasT ac (t : Int)) (List.range k)
      rw [List.length_range] at this; omega
    generalize ((List.range k).filter fun t : Nat => !hasT ac (t : Int)).map ri = RR at *
    cases hB : hasT ac (k : Int)
    · rw [hB] at hc2 hst
      simp only [Bool.not_false, if_true] at hst
      replace ho := Lib.hid ho
      replace hst := Lib.hid hst
      clear hcf hB
      replace hc2 := Lib.hid hc2
      repeat' (first
    | refine AW_seq_kn fun K hK => ?_
    | refine AW_block ?_
    | (refine does_call rfl rfl ?_; simp only [push_cast, seval, *]; refine ACall.monoP (unhid hc2 _ _ (upd_same _ _ _)) ?_; (try simp only [push_cast, seval, *]))
    | ((first
      | refine AW_region E0 ?_ | refine AW_ret ?_ | refine AW_exit ?_ | refine AW_skip ?_ | unfold retQ); try simp only [push_cast, seval, *])
    | ((first | (apply AW_cond; (case hc => (simp only [push_cast, seval]; rfl))) | (apply ER_guard; (case hb => (simp only [push_cast, seval]; rfl)))); all_goals ((intro hc; first | (exfalso; simp only [push_cast, seval, *] at hc; done) | (exact absurd hc (by decide)) | ((try first | rw [Bool.not_true] at hc | rw [Bool.not_false] at hc); first | (with_reducible replace hc := tTT hc); clear hc | (with_reducible replace hc := tFF hc); clear hc | (have hp := hc; try simp only [decide_eq_true_eq, decide_eq_false_iff_not, bA, bB, bC, bD, bE, bF, bG, bH] at hp))) <;> try simp only [push_cast, seval, *]))
    | (refine Kn.go hK ?_; clear hK K)
    | refine Kn.go (by assumption) ?_
    | (intro n hn; (try simp only [upd_none2, join_none_iff, ite_none, ne_eq] at hn); (try simp only [push_cast, seval, *]))
    | (intro hc)
    | (apply ER_blk; (case hp => rfl); (case hb => (simp only [push_cast, seval]; rfl)); (case hd => (simp only [push_cast, seval]; done)); (case h => (intro hc; simp only [push_cast, seval, *]; rfl)); simp only [push_cast, seval, *])
    | fail)
      rename_i n7 h7
      have ho2 := (unhid ho).new h7 (.r 3 1 1 [[.c (.int .i64 (k : Int))]])
      refine does_app1 rfl rfl rfl rfl ho2 (by simp only [upd_none2]; assumption) tE65 tS3 tB3 tZ3 rfl (by decide) ?_ ?_ ?_
      · unfold maxLen; omega
      · omega
      intro x' H' ho'
      have hcs' := ho'.cs
      have hone' := ho'.one
      obtain ⟨Hz, hz1, hz2⟩ := ho'.cut (K := base) (le_skip (Heap.le_refl _) ((unhid ho).none h7))
      clear ho ho2 ho'
      replace hz1 := Lib.hid hz1
      replace hz2 := Lib.hid hz2
      (try simp only [push_cast, seval, *])
      repeat' (first
    | refine AW_seq_kn fun K hK => ?_
    | refine AW_block ?_
    | ((first
      | refine AW_region E0 ?_ | refine AW_ret ?_ | refine AW_exit ?_ | refine AW_skip ?_ | unfold retQ); try simp only [push_cast, seval, *])
    | ((first | (apply AW_cond; (case hc => (simp only [push_cast, seval]; rfl))) | (apply ER_guard; (case hb => (simp only [push_cast, seval]; rfl)))); all_goals ((intro hc; first | (exfalso; simp only [push_cast, seval, *] at hc; done) | (exact absurd hc (by decide)) | ((try first | rw [Bool.not_true] at hc | rw [Bool.not_false] at hc); first | (with_reducible replace hc := tTT hc); clear hc | (with_reducible replace hc := tFF hc); clear hc | (have hp := hc; try simp only [decide_eq_true_eq, decide_eq_false_iff_not, bA, bB, bC, bD, bE, bF, bG, bH] at hp))) <;> try simp only [push_cast, seval, *]))
    | (refine Kn.go hK ?_; clear hK K)
    | refine Kn.go (by assumption) ?_
    | (intro n hn; (try simp only [upd_none2, join_none_iff, ite_none, ne_eq] at hn); (try simp only [push_cast, seval, *]))
    | (intro hc)
    | (apply ER_blk; (case hp => rfl); (case hb => (simp only [push_cast, seval]; rfl)); (case hd => (simp only [push_cast, seval]; done)); (case h => (intro hc; simp only [push_cast, seval, *]; rfl)); simp only [push_cast, seval, *])
    | fail)
      exact ⟨(x', Hz), by rw [unhid hst]; exact unhid hz2, by first | exact rfl | (first | trivial | (simp only [push_cast, seval, *]; done)), unhid hz1⟩
    · rw [hB] at hc2 hst
      simp only [Bool.not_true, Bool.false_eq_true, if_false, List.append_nil] at hst
      replace ho := Lib.hid ho
      replace hst := Lib.hid hst
      clear hcf hB
      replace hc2 := Lib.hid hc2
      repeat' (first
    | refine AW_seq_kn fun K hK => ?_
    | refine AW_block ?_
    | (refine does_call rfl rfl ?_; simp only [push_cast, seval, *]; refine ACall.monoP (unhid hc2 _ _ (upd_same _ _ _)) ?_; (try simp only [push_cast, seval, *]))
    | ((first
      | refine AW_region E0 ?_ | refine AW_ret ?_ | refine AW_exit ?_ | refine AW_skip ?_ | unfold retQ); try simp only [push_cast, seval, *])
    | ((first | (apply AW_cond; (case hc => (simp only [push_cast, seval]; rfl))) | (apply ER_guard; (case hb => (simp only [push_cast, seval]; rfl)))); all_goals ((intro hc; first | (exfalso; simp only [push_cast, seval, *] at hc; done) | (exact absurd hc (by decide)) | ((try first | rw [Bool.not_true] at hc | rw [Bool.not_false] at hc); first | (with_reducible replace hc := tTT hc); clear hc | (with_reducible replace hc := tFF hc); clear hc | (have hp := hc; try simp only [decide_eq_true_eq, decide_eq_false_iff_not, bA, bB, bC, bD, bE, bF, bG, bH] at hp))) <;> try simp only [push_cast, seval, *]))
    | (refine Kn.go hK ?_; clear hK K)
    | refine Kn.go (by assumption) ?_
    | (intro n hn; (try simp only [upd_none2, join_none_iff, ite_none, ne_eq] at hn); (try simp only [push_cast, seval, *]))
    | (intro hc)
    | (apply ER_blk; (case hp => rfl); (case hb => (simp only [push_cast, seval]; rfl)); (case hd => (simp only [push_cast, seval]; done)); (case h => (intro hc; simp only [push_cast, seval, *]; rfl)); simp only [push_cast, seval, *])
    | fail)
      exact ⟨(x, Hs), by rw [unhid hst]; exact unhid ho, by first | exact rfl | (first | trivial | (simp only [push_cast, seval, *]; done)), by first | trivial | (repeat' (first | exact Heap.le_refl _ | refine hle_upd2 ?_ _ _ | (refine Heap.le_new ?_ ?_; rotate_left 1; focus (first | assumption | (simp only [upd_none2, upd_get, ne_eq, push_cast, seval, *]; done) | (simp [upd_get, *]; done)))))⟩
  · rintro ⟨x, Hs⟩ ho
    simp only at ho ⊢
    repeat' (first
    | refine AW_seq_kn fun K hK => ?_
    | refine AW_block ?_
    | ((first
      | refine AW_region E0 ?_ | refine AW_ret ?_ | refine AW_exit ?_ | refine AW_skip ?_ | unfold retQ); try simp only [push_cast, seval, *])
    | ((first | (apply AW_cond; (case hc => (simp only [push_cast, seval]; rfl))) | (apply ER_guard; (case hb => (simp only [push_cast, seval]; rfl)))); all_goals ((intro hc; first | (exfalso; simp only [push_cast, seval, *] at hc; done) | (exact absurd hc (by decide)) | ((try first | rw [Bool.not_true] at hc | rw [Bool.not_false] at hc); first | (with_reducible replace hc := tTT hc); clear hc | (with_reducible replace hc := tFF hc); clear hc | (have hp := hc; try simp only [decide_eq_true_eq, decide_eq_false_iff_not, bA, bB, bC, bD, bE, bF, bG, bH] at hp))) <;> try simp only [push_cast, seval, *]))
    | (refine Kn.go hK ?_; clear hK K)
    | refine Kn.go (by assumption) ?_
    | (intro n hn; (try simp only [upd_none2, join_none_iff, ite_none, ne_eq] at hn); (try simp only [push_cast, seval, *]))
    | (intro hc)
    | (apply ER_blk; (case hp => rfl); (case hb => (simp only [push_cast, seval]; rfl)); (case hd => (simp only [push_cast, seval]; done)); (case h => (intro hc; simp only [push_cast, seval, *]; rfl)); simp only [push_cast, seval, *])
    | fail)
    exact ⟨_, H, (ho.weak fun F F' hF hi _ => hi).trans (Weak.less (unhid hle)), rfl, rfl⟩
end Go.Proofs.Ytlbdpnlmdcajbaa
