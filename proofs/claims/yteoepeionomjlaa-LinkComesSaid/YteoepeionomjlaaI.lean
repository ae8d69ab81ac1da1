/- Walks: hearing. -/
import Derived.Test.YteoepeionomjlaaH
namespace Go.Proofs.Yteoepeionomjlaa
open Go.RowKit
open Nat renaming reduceEqDiff → nA, reduceLT → nB, reduceLeDiff → nC, reduceAdd → nD, reduceMul → nE, reduceSub → nF, reduceBEq → nG
open Int renaming reduceToNat → iA, reduceLT → iB, reduceLE → iC, reduceEq → iD
open Bool renaming and_eq_true → bA, or_eq_true → bB, or_eq_false_iff → bC, and_eq_false_iff → bD, not_eq_true' → bE, not_eq_false' → bF, not_true → bG, not_false → bH
set_option linter.all false
set_option maxHeartbeats 4000000
attribute [local irreducible] AW Does


def hearE0 (s : Rcv) (e : Int) : Int := if rcvOk s = true then e else 240
def hearS0 (s s' : Rcv) (e : Int) : Rcv := if hearE0 s e = 0 then s' else zRcv
theorem hearing_o (s s' : Rcv) (e : Int) (hq : s.b.length ≤ 1000000) (gf : FuncId) (caps : List AV) (H : Heap)
    (hdo : rcvOk s = true → ∀ (p : Nat) (x : AV) (H H0 : Heap), OwnQ H x s.b H0 → H0 p = some (boxR s x) → ACall Try.prog gf ([.p p 4 0 0] ++ caps) H fun r H' => r = .c (.int .i64 e) ∧ ∃ x', OwnQ H' x' s'.b (upd H0 p (boxR s' x'))) :
    ACall Try.prog 59 [.g (Rcv.av s), .f (.func gf) [] caps] H fun r H' => ∃ x', r = .t [.g (rcvX (hearS0 s s' e) x'), .c (.int .i64 (hearE0 s e))] ∧ OwnQ H' x' (hearS0 s s' e).b H := by
  have hl : s.b.length ≤ maxLen := by unfold maxLen; omega
  cases hok : rcvOk s
  · have e1 : hearE0 s e = 240 := by simp [hearE0, hok]
    have e2 : hearS0 s s' e = zRcv := by simp [hearS0, e1]
    rw [e1, e2]
    refine ACall_of' Try.func59 rfl (Ent_of Try.func59 (by kernel_rfl) rfl) (by simp [Try.ntmps59]) ?_; simp only [Try.ntmps59, Try.results59]
    repeat' (first
    | refine AW_seq_kn fun K hK => ?_
    | refine AW_block ?_
    | (refine does_call rfl rfl ?_; simp only [push_cast, reduceIte, nA, nB, nC, reduceCtorEq, nD, nE, nF, nG, iA, iB, iC, iD, *]; refine ACall.mono (checkReceiver_p _ (by assumption) _) ?_; (rintro _ _ ⟨rfl, e2⟩; have e3 := e2.symm; clear e2; subst e3); (try simp only [push_cast, reduceIte, nA, nB, nC, reduceCtorEq, nD, nE, nF, nG, iA, iB, iC, iD, *]))
    | ((first
      | refine AW_region E1 ?_ | refine AW_ret ?_ | refine AW_exit ?_ | refine AW_skip ?_ | unfold retQ); try simp only [push_cast, reduceIte, nA, nB, nC, reduceCtorEq, nD, nE, nF, nG, iA, iB, iC, iD, *])
    | (apply AW_cond; (case hc => (simp only [push_cast, reduceIte, nA, nB, nC, reduceCtorEq, nD, nE, nF, nG, iA, iB, iC, iD]; rfl)); all_goals (intro hc; first | (exfalso; simp only [push_cast, reduceIte, nA, nB, nC, reduceCtorEq, nD, nE, nF, nG, iA, iB, iC, iD, *] at hc; done) | (exact absurd hc (by decide)) | (with_reducible (have hcc : true = true := hc); clear hcc hc) | (with_reducible (have hcc : false = false := hc); clear hcc hc) | ((try simp only [Bool.not_true, Bool.not_false] at hc); (first | (with_reducible (have hcc : true = true := hc); clear hcc hc) | (with_reducible (have hcc : false = false := hc); clear hcc hc) | (have hp := hc; (try simp only [decide_eq_true_eq, decide_eq_false_iff_not, bA, bB, bC, bD, bE, bF, bG, bH] at hp))))))
    | (refine Kn.go hK ?_; clear hK K)
    | refine Kn.go (by assumption) ?_
    | (intro n hn; (try simp only [upd_none2, join_none_iff, ite_none, ne_eq] at hn); (try simp only [push_cast, reduceIte, nA, nB, nC, reduceCtorEq, nD, nE, nF, nG, iA, iB, iC, iD, *]))
    | (intro hc)
    | fail)
    exact ⟨_, H, Weak.less (by (simp only [push_cast, reduceIte, nA, nB, nC, reduceCtorEq, nD, nE, nF, nG, iA, iB, iC, iD, *])), .c (.slice none 0 0), rfl, OwnL.nil _ _ _⟩
  · have e1 : hearE0 s e = e := by simp [hearE0, hok]
    have hdo := hdo hok
    rw [e1]
    refine ACall_of' Try.func59 rfl (Ent_of Try.func59 (by kernel_rfl) rfl) (by simp [Try.ntmps59]) ?_; simp only [Try.ntmps59, Try.results59]
    repeat' (first
    | refine AW_seq_kn fun K hK => ?_
    | refine AW_block ?_
    | (refine does_call rfl rfl ?_; simp only [push_cast, reduceIte, nA, nB, nC, reduceCtorEq, nD, nE, nF, nG, iA, iB, iC, iD, *]; refine ACall.mono (clone_o s.b hq _) ?_; intro x G' hown; have hcs := hown.cs; (try simp only [push_cast, reduceIte, nA, nB, nC, reduceCtorEq, nD, nE, nF, nG, iA, iB, iC, iD, *]))
    | (refine does_call rfl rfl ?_; simp only [push_cast, reduceIte, nA, nB, nC, reduceCtorEq, nD, nE, nF, nG, iA, iB, iC, iD, *]; refine ACall.mono (checkReceiver_p _ (by assumption) _) ?_; (rintro _ _ ⟨rfl, e2⟩; have e3 := e2.symm; clear e2; subst e3); (try simp only [push_cast, reduceIte, nA, nB, nC, reduceCtorEq, nD, nE, nF, nG, iA, iB, iC, iD, *]))
    | ((first
      | refine AW_region E1 ?_ | refine AW_ret ?_ | refine AW_exit ?_ | refine AW_skip ?_ | unfold retQ); try simp only [push_cast, reduceIte, nA, nB, nC, reduceCtorEq, nD, nE, nF, nG, iA, iB, iC, iD, *])
    | (apply AW_cond; (case hc => (simp only [push_cast, reduceIte, nA, nB, nC, reduceCtorEq, nD, nE, nF, nG, iA, iB, iC, iD]; rfl)); all_goals (intro hc; first | (exfalso; simp only [push_cast, reduceIte, nA, nB, nC, reduceCtorEq, nD, nE, nF, nG, iA, iB, iC, iD, *] at hc; done) | (exact absurd hc (by decide)) | (with_reducible (have hcc : true = true := hc); clear hcc hc) | (with_reducible (have hcc : false = false := hc); clear hcc hc) | ((try simp only [Bool.not_true, Bool.not_false] at hc); (first | (with_reducible (have hcc : true = true := hc); clear hcc hc) | (with_reducible (have hcc : false = false := hc); clear hcc hc) | (have hp := hc; (try simp only [decide_eq_true_eq, decide_eq_false_iff_not, bA, bB, bC, bD, bE, bF, bG, bH] at hp))))))
    | (refine Kn.go hK ?_; clear hK K)
    | refine Kn.go (by assumption) ?_
    | (intro n hn; (try simp only [upd_none2, join_none_iff, ite_none, ne_eq] at hn); (try simp only [push_cast, reduceIte, nA, nB, nC, reduceCtorEq, nD, nE, nF, nG, iA, iB, iC, iD, *]))
    | (intro hc)
    | fail)
    rename_i p hp
    have hpn : p ≠ n := fun h => hn.1.1 h.symm
    have k1 := hown.get (m := p) (by rw [upd_ne hpn]; exact upd_same _ _ _)
    have k2 := hown.get (m := n) (upd_same _ _ _)
    have hown2 := hown.turn (m := p) (by rw [upd_ne hpn]; exact upd_same _ _ _) (boxR s x)
    have hc := hdo p x _ _ hown2 (upd_same _ _ _)
    rw [upd_comm hpn, upd_upd] at hc
    obtain ⟨Z, hZ⟩ : ∃ Z : Blk, Z = Blk.r 55 4 1 [[AV.c (Value.int IntKind.u32 0), AV.c (Value.int IntKind.u64 0), AV.c (Value.slice none 0 0), AV.c (Value.int IntKind.i64 0)]] := ⟨_, rfl⟩
    rw [← hZ] at hc
    simp only [boxR, rcvX, List.cons_append, List.nil_append] at hc
    clear hown hown2 hdo
    (try simp only [push_cast, reduceIte, nA, nB, nC, reduceCtorEq, nD, nE, nF, nG, iA, iB, iC, iD, *])
    refine Kn.go (by assumption) ?_
    repeat' (first
    | refine AW_seq_kn fun K hK => ?_
    | refine AW_block ?_
    | (refine does_call_f rfl rfl ?_; simp only [push_cast, reduceIte, nA, nB, nC, reduceCtorEq, nD, nE, nF, nG, iA, iB, iC, iD]; refine ACall.mono hc ?_; rintro _ G'' ⟨rfl, x', hown3⟩; rw [upd_upd] at hown3; have k4 := hown3.get (m := p) (upd_same _ _ _); have k3 := hown3.get (m := n) (by rw [upd_ne (Ne.symm hpn)]; exact upd_same _ _ _); rw [hZ] at k3; have hcs3 := hown3.cs; (try simp only [push_cast, reduceIte, nA, nB, nC, reduceCtorEq, nD, nE, nF, nG, iA, iB, iC, iD]))
    | (refine does_call rfl rfl ?_; simp only [push_cast, reduceIte, nA, nB, nC, reduceCtorEq, nD, nE, nF, nG, iA, iB, iC, iD, *]; refine ACall.mono (checkReceiver_p _ (by assumption) _) ?_; (rintro _ _ ⟨rfl, e2⟩; have e3 := e2.symm; clear e2; subst e3); (try simp only [push_cast, reduceIte, nA, nB, nC, reduceCtorEq, nD, nE, nF, nG, iA, iB, iC, iD, *]))
    | ((first
      | refine AW_region E1 ?_ | refine AW_ret ?_ | refine AW_exit ?_ | refine AW_skip ?_ | unfold retQ); try simp only [push_cast, reduceIte, nA, nB, nC, reduceCtorEq, nD, nE, nF, nG, iA, iB, iC, iD, *])
    | (apply AW_cond; (case hc => (simp only [push_cast, reduceIte, nA, nB, nC, reduceCtorEq, nD, nE, nF, nG, iA, iB, iC, iD]; rfl)); all_goals (intro hc; first | (exfalso; simp only [push_cast, reduceIte, nA, nB, nC, reduceCtorEq, nD, nE, nF, nG, iA, iB, iC, iD, *] at hc; done) | (exact absurd hc (by decide)) | (with_reducible (have hcc : true = true := hc); clear hcc hc) | (with_reducible (have hcc : false = false := hc); clear hcc hc) | ((try simp only [Bool.not_true, Bool.not_false] at hc); (first | (with_reducible (have hcc : true = true := hc); clear hcc hc) | (with_reducible (have hcc : false = false := hc); clear hcc hc) | (have hp := hc; (try simp only [decide_eq_true_eq, decide_eq_false_iff_not, bA, bB, bC, bD, bE, bF, bG, bH] at hp))))))
    | (refine Kn.go hK ?_; clear hK K)
    | refine Kn.go (by assumption) ?_
    | (intro n hn; (try simp only [upd_none2, join_none_iff, ite_none, ne_eq] at hn); (try simp only [push_cast, reduceIte, nA, nB, nC, reduceCtorEq, nD, nE, nF, nG, iA, iB, iC, iD, *]))
    | (intro hc)
    | fail)
    · have e2 : hearS0 s s' e = zRcv := by unfold hearS0; rw [e1, if_neg (by assumption)]
      rw [e2]
      have hle : Heap.le H G'' := Heap.le_trans (Heap.le_new (Heap.le_new (Heap.le_refl _) hn.2) (by assumption)) hown3.le
      exact ⟨_, H, Weak.less (Heap.le_new hle hn.2), .c (.slice none 0 0), rfl, OwnL.nil _ _ _⟩
    · obtain rfl : e = 0 := by assumption
      have e2 : hearS0 s s' 0 = s' := by unfold hearS0; rw [e1, if_pos rfl]
      rw [e2]
      have h5 := (hown3.turn (m := n) (by rw [upd_ne (Ne.symm hpn)]; exact upd_same _ _ _) (boxR s' x'))
      have h6 := h5.dele (m := n) (upd_same _ _ _)
      have h7 := h6.dele (m := p) (by rw [del_ne hpn, upd_ne hpn]; exact upd_same _ _ _)
      rw [del_pair hn.2 (by assumption) hpn] at h7
      refine ⟨_, _, Weak.less ?_, x', rfl, h7⟩
      exact Heap.le_trans (del_le _ _) (del_le _ _)
def rH (s : Rcv) (p : Pk) : Rcv := hearS0 s (hearS s p) 0
def eH (s : Rcv) : Int := hearE0 s 0
theorem hear_o (s : Rcv) (e : Pk) (hq : s.b.length ≤ 1000000) (H : Heap) : ACall Try.prog 25 [.g (Rcv.av s), .g (Pk.av e)] H fun r H' => ∃ x', r = .t [.g (rcvX (rH s e) x'), .c (.int .i64 (eH s))] ∧ OwnQ H' x' (rH s e).b H := by
  refine ACall_of' Try.func25 rfl (Ent_of Try.func25 (by kernel_rfl) rfl) (by simp [Try.ntmps25]) ?_; simp only [Try.ntmps25, Try.results25]
  ((repeat refine AW_seq_kn fun K hK => ?_); (first | (refine AW_region E1 ?_; simp only [push_cast, reduceIte, nA, nB, nC, reduceCtorEq, nD, nE, nF, nG, iA, iB, iC, iD, *])); (repeat' (first | (intro n hn; (try simp only [upd_none2, join_none_iff, ite_none, ne_eq] at hn); (try simp only [push_cast, reduceIte, nA, nB, nC, reduceCtorEq, nD, nE, nF, nG, iA, iB, iC, iD, *])))); refine Kn.go hK ?_; clear hK K)
  rename_i ps h1 pe h2
  refine AW_hold pe [(2, .p ps 4 0 0), (3, .q (Pk.av e) 0), (4, .p n 4 0 0), (5, .c (.int .i64 0))] (H' := upd (upd H ps (.r 55 4 1 [Rcv.av s])) n boxQ) (by (try simp only [push_cast, reduceIte, nA, nB, nC, reduceCtorEq, nD, nE, nF, nG, iA, iB, iC, iD, *]); rfl) (by ((try simp only [SlF, frz, frzL, frzR, push_cast, push_cast, reduceIte, nA, nB, nC, reduceCtorEq, nD, nE, nF, nG, iA, iB, iC, iD, *]); done)) (by (repeat' (first | (refine Held.base ?_; focus (first | assumption | (simp only [*]; done) | rfl)) | (refine Held.own ?_) | (refine Held.turn ?_ ?_ ?_; rotate_left 1; (focus (simp only [ne_eq, not_false_eq_true, *]; done)); (focus ((simp only [frz, frzL, frzR, push_cast, reduceIte, nA, nB, nC, reduceCtorEq, nD, nE, nF, nG, iA, iB, iC, iD, *]); (first | done | rfl)))) | (refine Held.keep ?_ ?_; rotate_left 1; focus (simp only [ne_eq, not_false_eq_true, *]; done)) | (refine Held.drop ?_ ?_; rotate_left 1; focus (first | assumption | (simp only [upd_none2, join_none_iff, ite_none, ne_eq, and_self, and_true, true_and, not_false_eq_true, *]; done)))))) ?_
  simp only [Rcv.av, boxQ]
  have hso := hearing_o s (hearS s e) 0 hq 60 [.q (Pk.av e) 0] (upd (upd H ps (.r 55 4 1 [Rcv.av s])) n boxQ) (fun hok p x H H0 g1 g2 => hear1_a s e hok p x H H0 g1 g2)
  simp only [Rcv.av, boxQ, Pk.av] at hso
  repeat' (first
    | refine AW_seq_kn fun K hK => ?_
    | refine AW_block ?_
    | (refine does_call rfl rfl ?_; simp only [push_cast, reduceIte, nA, nB, nC, reduceCtorEq, nD, nE, nF, nG, iA, iB, iC, iD, *]; refine ACall.mono hso ?_; rintro _ G ⟨x', rfl, hown⟩; have k1 := hown.get (m := n) (upd_same _ _ _); have hcs := hown.cs; (try simp only [push_cast, reduceIte, nA, nB, nC, reduceCtorEq, nD, nE, nF, nG, iA, iB, iC, iD, *]))
    | ((first
      | refine AW_region E1 ?_ | refine AW_ret ?_ | refine AW_exit ?_ | refine AW_skip ?_ | unfold retQ); try simp only [push_cast, reduceIte, nA, nB, nC, reduceCtorEq, nD, nE, nF, nG, iA, iB, iC, iD, *])
    | (apply AW_cond; (case hc => (simp only [push_cast, reduceIte, nA, nB, nC, reduceCtorEq, nD, nE, nF, nG, iA, iB, iC, iD]; rfl)); all_goals (intro hc; first | (exfalso; simp only [push_cast, reduceIte, nA, nB, nC, reduceCtorEq, nD, nE, nF, nG, iA, iB, iC, iD, *] at hc; done) | (exact absurd hc (by decide)) | (with_reducible (have hcc : true = true := hc); clear hcc hc) | (with_reducible (have hcc : false = false := hc); clear hcc hc) | ((try simp only [Bool.not_true, Bool.not_false] at hc); (first | (with_reducible (have hcc : true = true := hc); clear hcc hc) | (with_reducible (have hcc : false = false := hc); clear hcc hc) | (have hp := hc; (try simp only [decide_eq_true_eq, decide_eq_false_iff_not, bA, bB, bC, bD, bE, bF, bG, bH] at hp))))))
    | (refine Kn.go hK ?_; clear hK K)
    | refine Kn.go (by assumption) ?_
    | (intro n hn; (try simp only [upd_none2, join_none_iff, ite_none, ne_eq] at hn); (try simp only [push_cast, reduceIte, nA, nB, nC, reduceCtorEq, nD, nE, nF, nG, iA, iB, iC, iD, *]))
    | (intro hc)
    | fail)
  have hpn : ps ≠ n := fun h => hn.2.1.1 h.symm
  have h5 := hown.turn (m := n) (upd_same _ _ _) (boxR (rH s e) x')
  rw [upd_upd] at h5
  have h6 := h5.dele (m := n) (upd_same _ _ _)
  have h7 := h6.dele (m := ps) (by rw [del_ne hpn, upd_ne hpn]; exact upd_same _ _ _)
  rw [del_pair2 hn.2.2 h1 hpn] at h7
  exact ⟨_, _, Weak.less (Heap.le_trans (del_le _ _) (del_le _ _)), x', rfl, h7⟩
end Go.Proofs.Yteoepeionomjlaa
