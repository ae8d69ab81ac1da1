/- Walks: Check. -/
import Derived.Test.YtlbdpnlmdcajbaaB
namespace Go.Proofs.Ytlbdpnlmdcajbaa
open Go.RowKit
open Nat renaming reduceEqDiff → nA, reduceLT → nB, reduceLeDiff → nC, reduceAdd → nD, reduceMul → nE, reduceSub → nF, reduceBEq → nG
open Int renaming reduceToNat → iA, reduceLT → iB, reduceLE → iC, reduceEq → iD
open Bool renaming and_eq_true → bA, or_eq_true → bB, or_eq_false_iff → bC, and_eq_false_iff → bD, not_eq_true' → bE, not_eq_false' → bF, not_true → bG, not_false → bH
set_option linter.all false
set_option maxHeartbeats 4000000
attribute [local irreducible] AW Does ACall tE tS tB tZ
def dLC0 : List En := [(0, false, []), (1, false, []), (2, false, []), (3, false, []), (4, false, []), (5, false, [])]
def dAC0 : List (List Nat) := [[], [0], [], [2], [0, 1], [0, 1, 2, 3, 4]]
attribute [push_cast] dLC0
set_option maxRecDepth 5000

def pdGo (c : Cd) : Int → Int → List Pd → Bool
  | _, _, [] => true
  | n, b, p :: l => (decide ((splS p.num).1 = c.epoch) && decide ((splS p.num).2 ≤ c.counter) && decide (n < p.num) && (decide (b ≤ p.begun) && decide (p.begun ≤ 1099511627776)) && akGo c.tasks (-1) p.acks) && pdGo c p.num p.begun l
def headOk (c : Cd) : Bool := (decide (1 ≤ c.epoch) && decide (c.epoch ≤ 2147483647)) && decide (c.counter ≤ 2147483647) && (decide (1 ≤ c.tasks) && decide (c.tasks ≤ 16)) && (decide (1 ≤ c.attempt) && decide (c.attempt ≤ 1048576)) && (decide (1 ≤ c.span) && decide (c.span ≤ 100)) && decide (c.pend.length ≤ 2)
def cdOk (c : Cd) : Bool := headOk c && pdGo c 0 0 c.pend
def Pd.fits (p : Pd) : Prop := (0 ≤ p.num ∧ p.num ≤ 18446744073709551615) ∧ p.acks.length ≤ maxLen
theorem Check_p (c : Cd) (hl : c.pend.length ≤ maxLen) (hfit : ∀ p ∈ c.pend, p.fits) : Pure Try.prog 24 [.g (Cd.av c)] (.c (.int .i64 (if cdOk c = true then 0 else 320))) := by
  intro H
  unfold maxLen at hl
  obtain ⟨R, hR⟩ : ∃ R, pdGo c 0 0 c.pend = R := ⟨_, rfl⟩
  have hE : cdOk c = (headOk c && R) := by unfold cdOk; rw [hR]
  rw [hE]
  clear hE
  obtain ⟨ep, ct, ts, at_, sp, pd⟩ := c
  simp only at hl hfit hR
  have hav : Cd.av ⟨ep, ct, ts, at_, sp, pd⟩ = [.c (.int .u64 ep), .c (.int .u64 ct), .c (.int .i64 ts), .c (.int .i64 at_), .c (.int .i64 sp), .l 4 (pd.map Pd.av)] := rfl
  rw [hav]
  clear hav
  have w1 := withinU_p ep 1 2147483647
  have w2 := withinI_p ts 1 16
  have w3 := withinI_p at_ 1 1048576
  have w4 := within64_p sp 1 100
  have hlen : decide (pd.length ≤ 2) = decide ((pd.length : Int) ≤ 2) := by rw [decide_eq_decide]; omega
  obtain ⟨B0, hB0⟩ : ∃ B0, headOk ⟨ep, ct, ts, at_, sp, pd⟩ = B0 := ⟨_, rfl⟩
  have hB : ((decide (1 ≤ ep) && decide (ep ≤ 2147483647)) && decide (ct ≤ 2147483647) && (decide (1 ≤ ts) && decide (ts ≤ 16)) && (decide (1 ≤ at_) && decide (at_ ≤ 1048576)) && (decide (1 ≤ sp) && decide (sp ≤ 100)) && decide ((pd.length : Int) ≤ 2)) = B0 := by rw [← hB0, ← hlen]; rfl
  rw [hB0]
  generalize (decide (1 ≤ ep) && decide (ep ≤ 2147483647)) = b1 at *
  generalize (decide (1 ≤ ts) && decide (ts ≤ 16)) = b2 at *
  generalize (decide (1 ≤ at_) && decide (at_ ≤ 1048576)) = b3 at *
  generalize (decide (1 ≤ sp) && decide (sp ≤ 100)) = b4 at *
  replace hB := Lib.hid hB
  replace hR := Lib.hid hR
  replace hfit := Lib.hid hfit
  clear hB0 hlen
  refine ACall_of' Try.func24 rfl (Ent_of Try.func24 (by kernel_rfl) rfl) (by simp [Try.ntmps24]) ?_; simp only [Try.ntmps24, Try.results24]
  repeat' (first
    | (refine AW_atB (id := 4) ?_)
    | refine AW_seq_kn fun K hK => ?_
    | refine AW_block ?_
    | (refine does_call rfl rfl ?_; simp only [push_cast, seval, *]; refine ACall.monoP (w1 _) ?_; (try simp only [push_cast, seval, *]))
    | (refine does_call rfl rfl ?_; simp only [push_cast, seval, *]; refine ACall.monoP (w2 _) ?_; (try simp only [push_cast, seval, *]))
    | (refine does_call rfl rfl ?_; simp only [push_cast, seval, *]; refine ACall.monoP (w3 _) ?_; (try simp only [push_cast, seval, *]))
    | (refine does_call rfl rfl ?_; simp only [push_cast, seval, *]; refine ACall.monoP (w4 _) ?_; (try simp only [push_cast, seval, *]))
    | (refine does_call rfl rfl ?_; simp only [push_cast, seval, *]; refine ACall.monoP (withinU_p _ _ _ _) ?_; (try simp only [push_cast, seval, *]))
    | (refine does_call rfl rfl ?_; simp only [push_cast, seval, *]; refine ACall.monoP (withinI_p _ _ _ _) ?_; (try simp only [push_cast, seval, *]))
    | (refine does_call rfl rfl ?_; simp only [push_cast, seval, *]; refine ACall.monoP (within64_p _ _ _ _) ?_; (try simp only [push_cast, seval, *]))
    | ((first
      | refine AW_region_draw (id := 9) E0 (fun f => [].contains f) dLC0 dAC0 mixed (by kernel_rfl) ?_
      | refine AW_region E0 ?_ | refine AW_ret ?_ | refine AW_exit ?_ | refine AW_skip ?_ | unfold retQ); try simp only [push_cast, seval, *])
    | ((first | (apply AW_cond; (case hc => (simp only [push_cast, seval]; rfl))) | (apply ER_guard; (case hb => (simp only [push_cast, seval]; rfl)))); all_goals ((intro hc; first | (exfalso; simp only [push_cast, seval, *] at hc; done) | (exact absurd hc (by decide)) | ((try first | rw [Bool.not_true] at hc | rw [Bool.not_false] at hc); first | (with_reducible replace hc := tTT hc); clear hc | (with_reducible replace hc := tFF hc); clear hc | (have hp := hc; try simp only [decide_eq_true_eq, decide_eq_false_iff_not, bA, bB, bC, bD, bE, bF, bG, bH] at hp))) <;> try simp only [push_cast, seval, *]))
    | (refine Kn.go hK ?_; clear hK K)
    | refine Kn.go (by assumption) ?_
    | (intro n hn; (try simp only [upd_none2, join_none_iff, ite_none, ne_eq] at hn); (try simp only [push_cast, seval, *]))
    | (intro hc)
    | (apply ER_blk; (case hp => rfl); (case hb => (simp only [push_cast, seval]; rfl)); (case hd => (simp only [push_cast, seval]; done)); (case h => (intro hc; simp only [push_cast, seval, *]; rfl)); simp only [push_cast, seval, *])
    | fail)
  all_goals
    refine ⟨?_⟩
    have hv := unhid hB
    simp only [*, Bool.false_and, Bool.and_false, Bool.true_and, Bool.and_true, decide_true, decide_false] at hv
    clear hB
    replace hv := Lib.hid hv
    repeat' (first
    | refine AW_seq_kn fun K hK => ?_
    | refine AW_block ?_
    | (refine does_call rfl rfl ?_; simp only [push_cast, seval, *]; refine ACall.monoP (withinU_p _ _ _ _) ?_; (try simp only [push_cast, seval, *]))
    | (refine does_call rfl rfl ?_; simp only [push_cast, seval, *]; refine ACall.monoP (withinI_p _ _ _ _) ?_; (try simp only [push_cast, seval, *]))
    | (refine does_call rfl rfl ?_; simp only [push_cast, seval, *]; refine ACall.monoP (within64_p _ _ _ _) ?_; (try simp only [push_cast, seval, *]))
    | ((first
      | refine AW_region_draw (id := 9) E0 (fun f => [].contains f) dLC0 dAC0 mixed (by kernel_rfl) ?_
      | refine AW_region E0 ?_ | refine AW_ret ?_ | refine AW_exit ?_ | refine AW_skip ?_ | unfold retQ); try simp only [push_cast, seval, *])
    | ((first | (apply AW_cond; (case hc => (simp only [push_cast, seval]; rfl))) | (apply ER_guard; (case hb => (simp only [push_cast, seval]; rfl)))); all_goals ((intro hc; first | (exfalso; simp only [push_cast, seval, *] at hc; done) | (exact absurd hc (by decide)) | ((try first | rw [Bool.not_true] at hc | rw [Bool.not_false] at hc); first | (with_reducible replace hc := tTT hc); clear hc | (with_reducible replace hc := tFF hc); clear hc | (have hp := hc; try simp only [decide_eq_true_eq, decide_eq_false_iff_not, bA, bB, bC, bD, bE, bF, bG, bH] at hp))) <;> try simp only [push_cast, seval, *]))
    | (refine Kn.go hK ?_; clear hK K)
    | refine Kn.go (by assumption) ?_
    | (intro n hn; (try simp only [upd_none2, join_none_iff, ite_none, ne_eq] at hn); (try simp only [push_cast, seval, *]))
    | (intro hc)
    | (apply ER_blk; (case hp => rfl); (case hb => (simp only [push_cast, seval]; rfl)); (case hd => (simp only [push_cast, seval]; done)); (case h => (intro hc; simp only [push_cast, seval, *]; rfl)); simp only [push_cast, seval, *])
    | fail)
    refine AW_loopX (σ := Bool × Int × Int) pd.length (fun k s => (s.1 && pdGo ⟨ep, ct, ts, at_, sp, pd⟩ s.2.1 s.2.2 (pd.drop k)) = (B0 && R)) (fun k s => [(1, .p n 6 0 0), (3, .c (.bool s.1)), (4, .c (.int .u64 s.2.1)), (5, .c (.int .i64 s.2.2)), (41, .l 4 (pd.map Pd.av)), (42, ci pd.length), (43, ci k)]) (fun _ _ => upd H n (.r 30 6 1 [[.c (.int .u64 ep), .c (.int .u64 ct), .c (.int .i64 ts), .c (.int .i64 at_), .c (.int .i64 sp), .l 4 (pd.map Pd.av)]])) (B0, 0, 0) (by rw [List.drop_zero, unhid hR]) ?_ ?_ ?_ ?_
    · have hv2 := unhid hv; subst hv2; (first | trivial | (simp only [push_cast, seval, *]; done))
    · exact Heap.le_refl _
    · rintro k ⟨b, nn, bb⟩ hk hinv
      have hx := List.getElem?_eq_getElem (l := pd) hk; generalize pd[k] = x at hx; have hxm := List.mem_of_getElem? hx; have hkl : (k : Int) < pd.length := (by omega); have hkw : IntKind.i64.wrap ((k : Int) + 1) = (k : Int) + 1 := wrap_i64 (by omega) (by omega)
      rw [drop_get hx, pdGo] at hinv
      obtain ⟨num, bg, sv, ac⟩ := x
      have hf := unhid hfit _ hxm
      have hsp := Split_p num hf.1.1 hf.1.2
      have hri := cRight_p ac hf.2 ts
      have hwi := within64_p bg bb 1099511627776
      simp only at hinv
      generalize (decide (bb ≤ bg) && decide (bg ≤ 1099511627776)) = w at *
      generalize akGo ts (-1) ac = ak at *
      generalize splS num = S at *
      obtain ⟨s1, s2⟩ := S
      have hav : Pd.av ⟨num, bg, sv, ac⟩ = [.c (.int .u64 num), .c (.int .i64 bg), .c (.bool sv), .l 2 (ac.map Ak.av)] := rfl
      simp only at hsp hinv
      have hinv2 : ((b && (decide (s1 = ep) && decide (s2 ≤ ct) && decide (nn < num) && w && ak)) && pdGo ⟨ep, ct, ts, at_, sp, pd⟩ num bg (pd.drop (k + 1))) = (B0 && R) := by rw [← hinv, Bool.and_assoc]
      replace hinv2 := Lib.hid hinv2
      clear hinv hxm hf hfit hR hv w1 w2 w3 w4
      cases b
      all_goals
        repeat' (first
    | refine AW_seq_kn fun K hK => ?_
    | refine AW_block ?_
    | (refine does_call rfl rfl ?_; simp only [push_cast, seval, *]; refine ACall.monoP (hsp _) ?_; (try simp only [push_cast, seval, *]))
    | (refine does_call rfl rfl ?_; simp only [push_cast, seval, *]; refine ACall.monoP (hri _) ?_; (try simp only [push_cast, seval, *]))
    | (refine does_call rfl rfl ?_; simp only [push_cast, seval, *]; refine ACall.monoP (hwi _) ?_; (try simp only [push_cast, seval, *]))
    | (refine does_call rfl rfl ?_; simp only [push_cast, seval, *]; refine ACall.monoP (withinU_p _ _ _ _) ?_; (try simp only [push_cast, seval, *]))
    | (refine does_call rfl rfl ?_; simp only [push_cast, seval, *]; refine ACall.monoP (withinI_p _ _ _ _) ?_; (try simp only [push_cast, seval, *]))
    | (refine does_call rfl rfl ?_; simp only [push_cast, seval, *]; refine ACall.monoP (within64_p _ _ _ _) ?_; (try simp only [push_cast, seval, *]))
    | ((first
      | refine AW_region_draw (id := 9) E0 (fun f => [].contains f) dLC0 dAC0 mixed (by kernel_rfl) ?_
      | refine AW_region E0 ?_ | refine AW_ret ?_ | refine AW_exit ?_ | refine AW_skip ?_ | unfold retQ); try simp only [push_cast, seval, *])
    | ((first | (apply AW_cond; (case hc => (simp only [push_cast, seval]; rfl))) | (apply ER_guard; (case hb => (simp only [push_cast, seval]; rfl)))); all_goals ((intro hc; first | (exfalso; simp only [push_cast, seval, *] at hc; done) | (exact absurd hc (by decide)) | ((try first | rw [Bool.not_true] at hc | rw [Bool.not_false] at hc); first | (with_reducible replace hc := tTT hc); clear hc | (with_reducible replace hc := tFF hc); clear hc | (have hp := hc; try simp only [decide_eq_true_eq, decide_eq_false_iff_not, bA, bB, bC, bD, bE, bF, bG, bH] at hp))) <;> try simp only [push_cast, seval, *]))
    | (refine Kn.go hK ?_; clear hK K)
    | refine Kn.go (by assumption) ?_
    | (intro n hn; (try simp only [upd_none2, join_none_iff, ite_none, ne_eq] at hn); (try simp only [push_cast, seval, *]))
    | (intro hc)
    | (apply ER_blk; (case hp => rfl); (case hb => (simp only [push_cast, seval]; rfl)); (case hd => (simp only [push_cast, seval]; done)); (case h => (intro hc; simp only [push_cast, seval, *]; rfl)); simp only [push_cast, seval, *])
    | fail)
        all_goals
          exact ⟨(_, num, bg), unhid hinv2, by first | (first | trivial | (simp only [push_cast, seval, *]; done)) | (simp [*]; done) | (simp_all; done), by first | trivial | (repeat' (first | exact Heap.le_refl _ | refine hle_upd2 ?_ _ _ | (refine Heap.le_new ?_ ?_; rotate_left 1; focus (first | assumption | (simp only [upd_none2, upd_get, ne_eq, push_cast, seval, *]; done) | (simp [upd_get, *]; done)))))⟩
    · rintro ⟨b, nn, bb⟩ hinv
      simp only [List.drop_length, pdGo, Bool.and_true] at hinv
      replace hinv := Lib.hid hinv
      clear hR hv hfit
      cases b
      all_goals
        repeat' (first
    | refine AW_seq_kn fun K hK => ?_
    | refine AW_block ?_
    | (refine does_call rfl rfl ?_; simp only [push_cast, seval, *]; refine ACall.monoP (withinU_p _ _ _ _) ?_; (try simp only [push_cast, seval, *]))
    | (refine does_call rfl rfl ?_; simp only [push_cast, seval, *]; refine ACall.monoP (withinI_p _ _ _ _) ?_; (try simp only [push_cast, seval, *]))
    | (refine does_call rfl rfl ?_; simp only [push_cast, seval, *]; refine ACall.monoP (within64_p _ _ _ _) ?_; (try simp only [push_cast, seval, *]))
    | ((first
      | refine AW_region_draw (id := 9) E0 (fun f => [].contains f) dLC0 dAC0 mixed (by kernel_rfl) ?_
      | refine AW_region E0 ?_ | refine AW_ret ?_ | refine AW_exit ?_ | refine AW_skip ?_ | unfold retQ); try simp only [push_cast, seval, *])
    | ((first | (apply AW_cond; (case hc => (simp only [push_cast, seval]; rfl))) | (apply ER_guard; (case hb => (simp only [push_cast, seval]; rfl)))); all_goals ((intro hc; first | (exfalso; simp only [push_cast, seval, *] at hc; done) | (exact absurd hc (by decide)) | ((try first | rw [Bool.not_true] at hc | rw [Bool.not_false] at hc); first | (with_reducible replace hc := tTT hc); clear hc | (with_reducible replace hc := tFF hc); clear hc | (have hp := hc; try simp only [decide_eq_true_eq, decide_eq_false_iff_not, bA, bB, bC, bD, bE, bF, bG, bH] at hp))) <;> try simp only [push_cast, seval, *]))
    | (refine Kn.go hK ?_; clear hK K)
    | refine Kn.go (by assumption) ?_
    | (intro n hn; (try simp only [upd_none2, join_none_iff, ite_none, ne_eq] at hn); (try simp only [push_cast, seval, *]))
    | (intro hc)
    | (apply ER_blk; (case hp => rfl); (case hb => (simp only [push_cast, seval]; rfl)); (case hd => (simp only [push_cast, seval]; done)); (case h => (intro hc; simp only [push_cast, seval, *]; rfl)); simp only [push_cast, seval, *])
    | fail)
        exact ⟨_, _, Weak.less (Heap.le_new (Heap.le_refl _) hn), by rw [← unhid hinv]; rfl, rfl⟩
end Go.Proofs.Ytlbdpnlmdcajbaa
