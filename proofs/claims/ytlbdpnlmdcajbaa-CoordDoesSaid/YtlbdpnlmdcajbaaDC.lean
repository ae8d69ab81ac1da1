/- The document's Trigger, and where a checkpoint is. -/
import Derived.Test.YtlbdpnlmdcajbaaDA
import Derived.Test.YtlbdpnlmdcajbaaZK
import Derived.Test.YtlbdpnlmdcajbaaK
import Derived.Test.YtlbdpnlmdcajbaaG
namespace Go.Proofs.Ytlbdpnlmdcajbaa
open Go.RowKit
open Nat renaming reduceEqDiff → nA, reduceLT → nB, reduceLeDiff → nC, reduceAdd → nD, reduceMul → nE, reduceSub → nF, reduceBEq → nG
open Int renaming reduceToNat → iA, reduceLT → iB, reduceLE → iC, reduceEq → iD
open Bool renaming and_eq_true → bA, or_eq_true → bB, or_eq_false_iff → bC, and_eq_false_iff → bD, not_eq_true' → bE, not_eq_false' → bF, not_true → bG, not_false → bH
set_option linter.all false
set_option maxHeartbeats 4000000
attribute [local irreducible] AW Does ACall tE tS tB tZ
set_option maxRecDepth 5000

abbrev zcl : List AV := [.c (.int .u64 0), .c (.int .u64 0), .c (.int .i64 0), .c (.int .i64 0), .c (.int .i64 0), .c (.slice none 0 0)]
theorem zC_av : zeroC.av = [.c (.int .u64 0), .c (.int .u64 0), .c (.int .i64 0), .c (.int .i64 0), .c (.int .i64 0), .l 4 []] := rfl
theorem Imp_zc (F : Mem) : Imp F F (.g zcl) (.g zeroC.av) := Imp_cl (Mem.le.refl F) zeroC (Imp.nil_l 4) rfl
theorem zc2 (H : Heap) (a : Value) : Weak (.t [.g zcl, .c a]) H (.t [.g zeroC.av, .c a]) H :=
  Weak.imp (fun F => Imp.t (Imps.cons (Imp_zc F) (fun h => by cases h) (Imps.cons (Imp.refl (Mem.le.refl F) _) id Imps.nil))) (Heap.le_refl _)
theorem zc3 (H : Heap) (a b : Value) : Weak (.t [.g zcl, .c a, .c b]) H (.t [.g zeroC.av, .c a, .c b]) H :=
  Weak.imp (fun F => Imp.t (Imps.cons (Imp_zc F) (fun h => by cases h) (Imps.cons (Imp.refl (Mem.le.refl F) _) id (Imps.cons (Imp.refl (Mem.le.refl F) _) id Imps.nil)))) (Heap.le_refl _)
theorem zc3n (H : Heap) (b : Value) : Weak (.t [.g zcl, .c (.slice none 0 0), .c b]) H (.t [.g zeroC.av, .l 1 [], .c b]) H :=
  Weak.imp (fun F => Imp.t (Imps.cons (Imp_zc F) (fun h => by cases h) (Imps.cons (Imp.nil_l 1) (fun _ => rfl) (Imps.cons (Imp.refl (Mem.le.refl F) _) id Imps.nil)))) (Heap.le_refl _)
theorem zc4 (H : Heap) (b : Value) : Weak (.t [.g zcl, .c (.slice none 0 0), .c (.slice none 0 0), .c b]) H (.t [.g zeroC.av, .l 2 [], .l 1 [], .c b]) H :=
  Weak.imp (fun F => Imp.t (Imps.cons (Imp_zc F) (fun h => by cases h) (Imps.cons (Imp.nil_l 2) (fun _ => rfl) (Imps.cons (Imp.nil_l 1) (fun _ => rfl) (Imps.cons (Imp.refl (Mem.le.refl F) _) id Imps.nil))))) (Heap.le_refl _)
theorem pd_row (t : Pd) : (Pd.av t).length = 4 ∧ ∀ y ∈ Pd.av t, y.one = true := by
  refine ⟨rfl, fun y hy => ?_⟩
  simp only [Pd.av, List.mem_cons, List.not_mem_nil, or_false] at hy
  rcases hy with rfl | rfl | rfl | rfl <;> rfl
theorem own_c3 {c : Cd} {x : AV} {X H : Heap} {rows : List (List AV)} {a b : Value} (h : OwnL X x 61 4 rows H) (hi : ∀ F : Mem, Imp F F (.l 4 rows) (.l 4 (c.pend.map Pd.av))) : Weak (.t [.g (c.cl x), .c a, .c b]) X (.t [.g c.av, .c a, .c b]) H :=
  (OwnL.wp h).weak fun F F' hF g => Imp.t (Imps.cons (Imp_cl hF c (g.1.trans (hi F')) rfl) (fun h => by cases h) (Imps.cons (Imp.refl hF _) id (Imps.cons (Imp.refl hF _) id Imps.nil)))
theorem new_row (l : List Pd) (n b : Int) (s : Bool) (F : Mem) : Imp F F (.l 4 (l.map Pd.av ++ [[.c (.int .u64 n), .c (.int .i64 b), .c (.bool s), .c (.slice none 0 0)]])) (.l 4 ((l ++ [(⟨n, b, s, []⟩ : Pd)]).map Pd.av)) := by
  have := Imp_row (sz := 4) (A := l.map Pd.av) (B := []) (r := [.c (.int .u64 n), .c (.int .i64 b), .c (.bool s), .c (.slice none 0 0)]) (r' := Pd.av ⟨n, b, s, []⟩) (fun e he => ?_) rfl (fun j y hy => ?_) F
  · rw [List.append_nil, List.append_nil] at this
    rw [List.map_append]; exact this
  · rcases he with he | he
    · obtain ⟨q, -, rfl⟩ := List.mem_map.1 he; exact pd_row q
    · cases he
  · match j, hy with
    | 0, hy => cases hy; exact ⟨rfl, _, rfl, fun F => Imp.refl (Mem.le.refl F) _⟩
    | 1, hy => cases hy; exact ⟨rfl, _, rfl, fun F => Imp.refl (Mem.le.refl F) _⟩
    | 2, hy => cases hy; exact ⟨rfl, _, rfl, fun F => Imp.refl (Mem.le.refl F) _⟩
    | 3, hy => cases hy; exact ⟨rfl, _, rfl, fun F => Imp.nil_l 2⟩
    | j + 4, hy => simp [Pd.av] at hy
theorem refAt_p (c : Cd) (hl : c.pend.length ≤ maxLen) (nm at_ : Int) : Pure Try.prog 77 [.g (Cd.av c), .c (.int .u64 nm), .c (.int .i64 at_)] (.t [.c (.int .i64 (if oursE c nm at_ = 0 then fndS c.pend nm else 0)), .c (.int .i64 (oursE c nm at_))]) := by
  intro H
  have hfd := refFind_p c hl nm
  have hat := refAttempt_p at_
  unfold oursE
  generalize fndS c.pend nm = F at *
  obtain ⟨c0, c1, c2, c3, c4, l⟩ := c
  simp only [Cd.av] at hfd ⊢
  clear hl
  cases hA : (decide (1 ≤ at_) && decide (at_ ≤ 1048576))
  · rw [hA] at hat
    simp only [Bool.false_eq_true, if_false]
    rw [if_neg (by decide)]
    refine ACall_of' Try.func77 rfl (Ent_of Try.func77 (by kernel_rfl) rfl) (by simp [Try.ntmps77]) ?_; simp only [Try.ntmps77, Try.results77]
    repeat' (first
    | refine AW_seq_kn fun K hK => ?_
    | refine AW_block ?_
    | (refine does_call rfl rfl ?_; simp only [push_cast, seval, *]; refine ACall.monoP (hfd _) ?_; (try simp only [push_cast, seval, *]))
    | (refine does_call rfl rfl ?_; simp only [push_cast, seval, *]; refine ACall.monoP (hat _) ?_; (try simp only [push_cast, seval, *]))
    | ((first
      | refine AW_region E0 ?_ | refine AW_ret ?_ | refine AW_exit ?_ | refine AW_skip ?_ | unfold retQ); try simp only [push_cast, seval, *])
    | (apply AW_cond; (case hc => (simp only [push_cast, seval]; rfl)); all_goals (intro hc; first | (exfalso; simp only [push_cast, seval, *] at hc; done) | (exact absurd hc (by decide)) | ((try first | rw [Bool.not_true] at hc | rw [Bool.not_false] at hc); first | (with_reducible replace hc := tTT hc); clear hc | (with_reducible replace hc := tFF hc); clear hc | (have hp := hc; try simp only [decide_eq_true_eq, decide_eq_false_iff_not, bA, bB, bC, bD, bE, bF, bG, bH] at hp))))
    | (refine Kn.go hK ?_; clear hK K)
    | refine Kn.go (by assumption) ?_
    | (intro n hn; (try simp only [upd_none2, join_none_iff, ite_none, ne_eq] at hn); (try simp only [push_cast, seval, *]))
    | (intro hc)
    | fail)
    exact ⟨_, _, Weak.less (by (repeat' (first | exact Heap.le_refl _ | refine hle_upd2 ?_ _ _ | (refine Heap.le_new ?_ ?_; rotate_left 1; focus (first | assumption | (simp only [upd_none2, upd_get, ne_eq, push_cast, seval, *]; done) | (simp [upd_get, *]; done)))))), rfl, rfl⟩
  rw [hA] at hat
  simp only [if_true]
  by_cases h2 : at_ = c3
  rotate_left
  · rw [if_neg h2, if_neg (by decide)]
    refine ACall_of' Try.func77 rfl (Ent_of Try.func77 (by kernel_rfl) rfl) (by simp [Try.ntmps77]) ?_; simp only [Try.ntmps77, Try.results77]
    repeat' (first
    | refine AW_seq_kn fun K hK => ?_
    | refine AW_block ?_
    | (refine does_call rfl rfl ?_; simp only [push_cast, seval, *]; refine ACall.monoP (hfd _) ?_; (try simp only [push_cast, seval, *]))
    | (refine does_call rfl rfl ?_; simp only [push_cast, seval, *]; refine ACall.monoP (hat _) ?_; (try simp only [push_cast, seval, *]))
    | ((first
      | refine AW_region E0 ?_ | refine AW_ret ?_ | refine AW_exit ?_ | refine AW_skip ?_ | unfold retQ); try simp only [push_cast, seval, *])
    | (apply AW_cond; (case hc => (simp only [push_cast, seval]; rfl)); all_goals (intro hc; first | (exfalso; simp only [push_cast, seval, *] at hc; done) | (exact absurd hc (by decide)) | ((try first | rw [Bool.not_true] at hc | rw [Bool.not_false] at hc); first | (with_reducible replace hc := tTT hc); clear hc | (with_reducible replace hc := tFF hc); clear hc | (have hp := hc; try simp only [decide_eq_true_eq, decide_eq_false_iff_not, bA, bB, bC, bD, bE, bF, bG, bH] at hp))))
    | (refine Kn.go hK ?_; clear hK K)
    | refine Kn.go (by assumption) ?_
    | (intro n hn; (try simp only [upd_none2, join_none_iff, ite_none, ne_eq] at hn); (try simp only [push_cast, seval, *]))
    | (intro hc)
    | fail)
    exact ⟨_, _, Weak.less (by (repeat' (first | exact Heap.le_refl _ | refine hle_upd2 ?_ _ _ | (refine Heap.le_new ?_ ?_; rotate_left 1; focus (first | assumption | (simp only [upd_none2, upd_get, ne_eq, push_cast, seval, *]; done) | (simp [upd_get, *]; done)))))), rfl, rfl⟩
  rw [if_pos h2]
  subst h2
  clear hA
  by_cases h3 : F < 0
  · rw [if_pos h3, if_neg (by decide)]
    refine ACall_of' Try.func77 rfl (Ent_of Try.func77 (by kernel_rfl) rfl) (by simp [Try.ntmps77]) ?_; simp only [Try.ntmps77, Try.results77]
    repeat' (first
    | refine AW_seq_kn fun K hK => ?_
    | refine AW_block ?_
    | (refine does_call rfl rfl ?_; simp only [push_cast, seval, *]; refine ACall.monoP (hfd _) ?_; (try simp only [push_cast, seval, *]))
    | (refine does_call rfl rfl ?_; simp only [push_cast, seval, *]; refine ACall.monoP (hat _) ?_; (try simp only [push_cast, seval, *]))
    | ((first
      | refine AW_region E0 ?_ | refine AW_ret ?_ | refine AW_exit ?_ | refine AW_skip ?_ | unfold retQ); try simp only [push_cast, seval, *])
    | (apply AW_cond; (case hc => (simp only [push_cast, seval]; rfl)); all_goals (intro hc; first | (exfalso; simp only [push_cast, seval, *] at hc; done) | (exact absurd hc (by decide)) | ((try first | rw [Bool.not_true] at hc | rw [Bool.not_false] at hc); first | (with_reducible replace hc := tTT hc); clear hc | (with_reducible replace hc := tFF hc); clear hc | (have hp := hc; try simp only [decide_eq_true_eq, decide_eq_false_iff_not, bA, bB, bC, bD, bE, bF, bG, bH] at hp))))
    | (refine Kn.go hK ?_; clear hK K)
    | refine Kn.go (by assumption) ?_
    | (intro n hn; (try simp only [upd_none2, join_none_iff, ite_none, ne_eq] at hn); (try simp only [push_cast, seval, *]))
    | (intro hc)
    | fail)
    exact ⟨_, _, Weak.less (by (repeat' (first | exact Heap.le_refl _ | refine hle_upd2 ?_ _ _ | (refine Heap.le_new ?_ ?_; rotate_left 1; focus (first | assumption | (simp only [upd_none2, upd_get, ne_eq, push_cast, seval, *]; done) | (simp [upd_get, *]; done)))))), rfl, rfl⟩
  · rw [if_neg h3, if_pos rfl]
    refine ACall_of' Try.func77 rfl (Ent_of Try.func77 (by kernel_rfl) rfl) (by simp [Try.ntmps77]) ?_; simp only [Try.ntmps77, Try.results77]
    repeat' (first
    | refine AW_seq_kn fun K hK => ?_
    | refine AW_block ?_
    | (refine does_call rfl rfl ?_; simp only [push_cast, seval, *]; refine ACall.monoP (hfd _) ?_; (try simp only [push_cast, seval, *]))
    | (refine does_call rfl rfl ?_; simp only [push_cast, seval, *]; refine ACall.monoP (hat _) ?_; (try simp only [push_cast, seval, *]))
    | ((first
      | refine AW_region E0 ?_ | refine AW_ret ?_ | refine AW_exit ?_ | refine AW_skip ?_ | unfold retQ); try simp only [push_cast, seval, *])
    | (apply AW_cond; (case hc => (simp only [push_cast, seval]; rfl)); all_goals (intro hc; first | (exfalso; simp only [push_cast, seval, *] at hc; done) | (exact absurd hc (by decide)) | ((try first | rw [Bool.not_true] at hc | rw [Bool.not_false] at hc); first | (with_reducible replace hc := tTT hc); clear hc | (with_reducible replace hc := tFF hc); clear hc | (have hp := hc; try simp only [decide_eq_true_eq, decide_eq_false_iff_not, bA, bB, bC, bD, bE, bF, bG, bH] at hp))))
    | (refine Kn.go hK ?_; clear hK K)
    | refine Kn.go (by assumption) ?_
    | (intro n hn; (try simp only [upd_none2, join_none_iff, ite_none, ne_eq] at hn); (try simp only [push_cast, seval, *]))
    | (intro hc)
    | fail)
    exact ⟨_, _, Weak.less (by (repeat' (first | exact Heap.le_refl _ | refine hle_upd2 ?_ _ _ | (refine Heap.le_new ?_ ?_; rotate_left 1; focus (first | assumption | (simp only [upd_none2, upd_get, ne_eq, push_cast, seval, *]; done) | (simp [upd_get, *]; done)))))), rfl, rfl⟩
theorem refTrigger_p (c : Cd) (hok : cdOk c = true) (hfit : c.fits) (now : Int) (save : Bool) : Pure Try.prog 41 [.g (Cd.av c), .c (.int .i64 now), .c (.bool save)] (.t [.g (if trigE c now = 0 then trigC c now save else zeroC).av, .c (.int .u64 (if trigE c now = 0 then numS c.epoch (c.counter + 1) else 0)), .c (.int .i64 (trigE c now))]) := by
  intro H
  have hcb := Copy_b c (small_of hok)
  have htk := refTick_p now
  have hl2 := (cdOk_bd hok).1
  have hep := cdOk_ep hok
  have hc0 := hfit.1.1
  have hnum := refNumber_p c.epoch (c.counter + 1) (by omega) (by omega)
  have hE : trigE c now = if (decide (0 ≤ now) && decide (now ≤ 1099511627776)) = false then 2 else if lateB c.pend now = true then 2 else if c.pend.length = 2 ∨ c.counter = 2147483647 then 6 else 0 := rfl
  have hC : trigC c now save = { c with counter := c.counter + 1, pend := c.pend ++ [⟨numS c.epoch (c.counter + 1), now, save, []⟩] } := rfl
  rw [hC]
  generalize trigE c now = E at *
  have key : (c.pend.length = 0 ∧ lateB c.pend now = false) ∨ (0 < c.pend.length ∧ ∃ p, c.pend[c.pend.length - 1]? = some p ∧ lateB c.pend now = decide (now < p.begun)) := by
    rcases Nat.eq_zero_or_pos c.pend.length with e | e
    · exact .inl ⟨e, by rw [List.length_eq_zero_iff.1 e]; rfl⟩
    · have hp : c.pend[c.pend.length - 1]? = some (c.pend[c.pend.length - 1]) := List.getElem?_eq_getElem (by omega)
      exact .inr ⟨e, _, hp, lateB_at hp now⟩
  obtain ⟨c0, c1, c2, c3, c4, l⟩ := c
  simp only at hl2 hep hc0 hnum hE hcb key ⊢
  have hcw : IntKind.u64.wrap (c1 + 1) = c1 + 1 := wrap_u64 (by omega) (by omega)
  have hav : ∀ a0 a1 a2 a3 a4 a5, Cd.av ⟨a0, a1, a2, a3, a4, a5⟩ = [.c (.int .u64 a0), .c (.int .u64 a1), .c (.int .i64 a2), .c (.int .i64 a3), .c (.int .i64 a4), .l 4 (a5.map Pd.av)] := fun _ _ _ _ _ _ => rfl
  simp only [hav] at hcb ⊢
  simp only [Cd.cl] at hcb
  generalize numS c0 (c1 + 1) = N at *
  clear hC hfit hok
  have hz := zC_av
  have hz2 := zc3 H
  rw [hz] at hz2
  replace hz2 := Lib.hid hz2
  replace hcb := Lib.hid hcb
  clear hep hav
  cases hW : (decide (0 ≤ now) && decide (now ≤ 1099511627776))
  · rw [hW, if_pos rfl] at hE
    rw [hW] at htk
    subst hE
    rw [if_neg (by decide), if_neg (by decide)]
    clear key hz hnum
    refine ACall_of' Try.func41 rfl (Ent_of Try.func41 (by kernel_rfl) rfl) (by simp [Try.ntmps41]) ?_; simp only [Try.ntmps41, Try.results41]
    repeat' (first
    | refine AW_seq_kn fun K hK => ?_
    | refine AW_block ?_
    | (refine does_call rfl rfl ?_; simp only [push_cast, seval, *]; refine ACall.monoP (htk _) ?_; (try simp only [push_cast, seval, *]))
    | ((first
      | refine AW_region E0 ?_ | refine AW_ret ?_ | refine AW_exit ?_ | refine AW_skip ?_ | unfold retQ); try simp only [push_cast, seval, *])
    | ((first | (apply AW_cond; (case hc => (simp only [push_cast, seval]; rfl))) | (apply ER_guard; (case hb => (simp only [push_cast, seval]; rfl)))); all_goals ((intro hc; first | (exfalso; simp only [push_cast, seval, *] at hc; done) | (exact absurd hc (by decide)) | ((try first | rw [Bool.not_true] at hc | rw [Bool.not_false] at hc); first | (with_reducible replace hc := tTT hc); clear hc | (with_reducible replace hc := tFF hc); clear hc | (have hp := hc; try simp only [decide_eq_true_eq, decide_eq_false_iff_not, bA, bB, bC, bD, bE, bF, bG, bH] at hp))) <;> try simp only [push_cast, seval, *]))
    | (refine Kn.go hK ?_; clear hK K)
    | refine Kn.go (by assumption) ?_
    | (intro n hn; (try simp only [upd_none2, join_none_iff, ite_none, ne_eq] at hn); (try simp only [push_cast, seval, *]))
    | (intro hc)
    | (apply ER_blk; (case hp => rfl); (case hb => (simp only [push_cast, seval]; rfl)); (case hd => (simp only [push_cast, seval]; done)); (case h => (intro hc; simp only [push_cast, seval, *]; rfl)); simp only [push_cast, seval, *])
    | fail)
    exact ⟨_, H, Weak.trans (Weak.less (by (repeat' (first | exact Heap.le_refl _ | refine hle_upd2 ?_ _ _ | (refine Heap.le_new ?_ ?_; rotate_left 1; focus (first | assumption | (simp only [upd_none2, upd_get, ne_eq, push_cast, seval, *]; done) | (simp [upd_get, *]; done))))))) (unhid hz2 _ _), rfl, rfl⟩
  rw [hW, if_neg (by decide)] at hE
  rw [hW] at htk
  clear hW
  cases hL : lateB l now
  rotate_left
  · rw [hL, if_pos rfl] at hE
    subst hE
    rw [if_neg (by decide), if_neg (by decide)]
    rcases key with ⟨-, e⟩ | ⟨e1, p, hp, e⟩
    · rw [hL] at e; cases e
    rw [hL] at e
    have hlt := of_decide_eq_true e.symm
    have hrow : (l.map Pd.av)[l.length - 1]? = some (Pd.av p) := by rw [List.getElem?_map, hp]; rfl
    obtain ⟨num, bg, sv, ac⟩ := p
    simp only at hlt
    have hpv : Pd.av ⟨num, bg, sv, ac⟩ = [.c (.int .u64 num), .c (.int .i64 bg), .c (.bool sv), .l 2 (ac.map Ak.av)] := rfl
    rw [hpv] at hrow
    have e1I : (0 : Int) < l.length := by omega
    have hlw : IntKind.i64.wrap ((l.length : Int) - 1) = ((l.length - 1 : Nat) : Int) := by rw [wrap_i64 (by omega) (by omega)]; omega
    have hi2 : ((l.length - 1 : Nat) : Int) < l.length := by omega
    clear e hL hp hpv hnum hz
    refine ACall_of' Try.func41 rfl (Ent_of Try.func41 (by kernel_rfl) rfl) (by simp [Try.ntmps41]) ?_; simp only [Try.ntmps41, Try.results41]
    repeat' (first
    | refine AW_seq_kn fun K hK => ?_
    | refine AW_block ?_
    | (refine does_call rfl rfl ?_; simp only [push_cast, seval, *]; refine ACall.monoP (htk _) ?_; (try simp only [push_cast, seval, *]))
    | ((first
      | refine AW_region E0 ?_ | refine AW_ret ?_ | refine AW_exit ?_ | refine AW_skip ?_ | unfold retQ); try simp only [push_cast, seval, *])
    | ((first | (apply AW_cond; (case hc => (simp only [push_cast, seval]; rfl))) | (apply ER_guard; (case hb => (simp only [push_cast, seval]; rfl)))); all_goals ((intro hc; first | (exfalso; simp only [push_cast, seval, *] at hc; done) | (exact absurd hc (by decide)) | ((try first | rw [Bool.not_true] at hc | rw [Bool.not_false] at hc); first | (with_reducible replace hc := tTT hc); clear hc | (with_reducible replace hc := tFF hc); clear hc | (have hp := hc; try simp only [decide_eq_true_eq, decide_eq_false_iff_not, bA, bB, bC, bD, bE, bF, bG, bH] at hp))) <;> try simp only [push_cast, seval, *]))
    | (refine Kn.go hK ?_; clear hK K)
    | refine Kn.go (by assumption) ?_
    | (intro n hn; (try simp only [upd_none2, join_none_iff, ite_none, ne_eq] at hn); (try simp only [push_cast, seval, *]))
    | (intro hc)
    | (apply ER_blk; (case hp => rfl); (case hb => (simp only [push_cast, seval]; rfl)); (case hd => (simp only [push_cast, seval]; done)); (case h => (intro hc; simp only [push_cast, seval, *]; rfl)); simp only [push_cast, seval, *])
    | fail)
    exact ⟨_, H, Weak.trans (Weak.less (by (repeat' (first | exact Heap.le_refl _ | refine hle_upd2 ?_ _ _ | (refine Heap.le_new ?_ ?_; rotate_left 1; focus (first | assumption | (simp only [upd_none2, upd_get, ne_eq, push_cast, seval, *]; done) | (simp [upd_get, *]; done))))))) (unhid hz2 _ _), rfl, rfl⟩
  rw [hL, if_neg (by decide)] at hE
  have key2 : (¬ (0 : Int) < l.length) ∨ ((0 : Int) < l.length ∧ IntKind.i64.wrap ((l.length : Int) - 1) = ((l.length - 1 : Nat) : Int) ∧ ((l.length - 1 : Nat) : Int) < l.length ∧ ∃ num bg sv z, (l.map Pd.av)[l.length - 1]? = some [.c (.int .u64 num), .c (.int .i64 bg), .c (.bool sv), z] ∧ ¬ now < bg) := by
    rcases key with ⟨e, -⟩ | ⟨e1, p, hp, e⟩
    · exact .inl (by omega)
    · rw [hL] at e
      refine .inr ⟨by omega, by rw [wrap_i64 (by omega) (by omega)]; omega, by omega, p.num, p.begun, p.save, .l 2 (p.acks.map Ak.av), by rw [List.getElem?_map, hp]; rfl, of_decide_eq_false e.symm⟩
  clear key hL
  by_cases h6 : l.length = 2 ∨ c1 = 2147483647
  · rw [if_pos h6] at hE
    subst hE
    rw [if_neg (by decide), if_neg (by decide)]
    have h6I : ((2 : Int) ≤ l.length ∧ (0 : Int) < l.length) ∨ (¬ (2 : Int) ≤ l.length ∧ c1 = 2147483647) := by omega
    clear h6 hnum hz
    rcases key2 with k0 | ⟨k0, k1, k2, num, bg, sv, z, k3, k4⟩
    all_goals rcases h6I with ⟨h2, h0⟩ | ⟨h2, h0⟩
    all_goals first
      | exact absurd h0 k0
      | (refine ACall_of' Try.func41 rfl (Ent_of Try.func41 (by kernel_rfl) rfl) (by simp [Try.ntmps41]) ?_; simp only [Try.ntmps41, Try.results41]
         repeat' (first
    | refine AW_seq_kn fun K hK => ?_
    | refine AW_block ?_
    | (refine does_call rfl rfl ?_; simp only [push_cast, seval, *]; refine ACall.monoP (htk _) ?_; (try simp only [push_cast, seval, *]))
    | ((first
      | refine AW_region E0 ?_ | refine AW_ret ?_ | refine AW_exit ?_ | refine AW_skip ?_ | unfold retQ); try simp only [push_cast, seval, *])
    | ((first | (apply AW_cond; (case hc => (simp only [push_cast, seval]; rfl))) | (apply ER_guard; (case hb => (simp only [push_cast, seval]; rfl)))); all_goals ((intro hc; first | (exfalso; simp only [push_cast, seval, *] at hc; done) | (exact absurd hc (by decide)) | ((try first | rw [Bool.not_true] at hc | rw [Bool.not_false] at hc); first | (with_reducible replace hc := tTT hc); clear hc | (with_reducible replace hc := tFF hc); clear hc | (have hp := hc; try simp only [decide_eq_true_eq, decide_eq_false_iff_not, bA, bB, bC, bD, bE, bF, bG, bH] at hp))) <;> try simp only [push_cast, seval, *]))
    | (refine Kn.go hK ?_; clear hK K)
    | refine Kn.go (by assumption) ?_
    | (intro n hn; (try simp only [upd_none2, join_none_iff, ite_none, ne_eq] at hn); (try simp only [push_cast, seval, *]))
    | (intro hc)
    | (apply ER_blk; (case hp => rfl); (case hb => (simp only [push_cast, seval]; rfl)); (case hd => (simp only [push_cast, seval]; done)); (case h => (intro hc; simp only [push_cast, seval, *]; rfl)); simp only [push_cast, seval, *])
    | fail)
         exact ⟨_, H, Weak.trans (Weak.less (by (repeat' (first | exact Heap.le_refl _ | refine hle_upd2 ?_ _ _ | (refine Heap.le_new ?_ ?_; rotate_left 1; focus (first | assumption | (simp only [upd_none2, upd_get, ne_eq, push_cast, seval, *]; done) | (simp [upd_get, *]; done))))))) (unhid hz2 _ _), rfl, rfl⟩)
  rw [if_neg h6] at hE
  subst hE
  rw [if_pos rfl, if_pos rfl]
  have h6a : ¬ (2 : Int) ≤ l.length := by omega
  have h6b : ¬ c1 = 2147483647 := by omega
  have hE4 := tE28
  have hS4 := tS61
  have hB4 := tB61
  have hZ4 := tZ61
  have hlm : (l.map Pd.av).length = l.length := List.length_map _
  clear h6 hz hz2
  rcases key2 with k0 | ⟨k0, k1, k2, num, bg, sv, z, k3, k4⟩
  all_goals
    refine ACall_of' Try.func41 rfl (Ent_of Try.func41 (by kernel_rfl) rfl) (by simp [Try.ntmps41]) ?_; simp only [Try.ntmps41, Try.results41]
    repeat' (first
    | refine AW_seq_kn fun K hK => ?_
    | refine AW_block ?_
    | (refine does_call rfl rfl ?_; simp only [push_cast, seval, *]; refine ACall.monoP (htk _) ?_; (try simp only [push_cast, seval, *]))
    | ((first
      | refine AW_region E0 ?_ | refine AW_ret ?_ | refine AW_exit ?_ | refine AW_skip ?_ | unfold retQ); try simp only [push_cast, seval, *])
    | ((first | (apply AW_cond; (case hc => (simp only [push_cast, seval]; rfl))) | (apply ER_guard; (case hb => (simp only [push_cast, seval]; rfl)))); all_goals ((intro hc; first | (exfalso; simp only [push_cast, seval, *] at hc; done) | (exact absurd hc (by decide)) | ((try first | rw [Bool.not_true] at hc | rw [Bool.not_false] at hc); first | (with_reducible replace hc := tTT hc); clear hc | (with_reducible replace hc := tFF hc); clear hc | (have hp := hc; try simp only [decide_eq_true_eq, decide_eq_false_iff_not, bA, bB, bC, bD, bE, bF, bG, bH] at hp))) <;> try simp only [push_cast, seval, *]))
    | (refine Kn.go hK ?_; clear hK K)
    | refine Kn.go (by assumption) ?_
    | (intro n hn; (try simp only [upd_none2, join_none_iff, ite_none, ne_eq] at hn); (try simp only [push_cast, seval, *]))
    | (intro hc)
    | (apply ER_blk; (case hp => rfl); (case hb => (simp only [push_cast, seval]; rfl)); (case hd => (simp only [push_cast, seval]; done)); (case h => (intro hc; simp only [push_cast, seval, *]; rfl)); simp only [push_cast, seval, *])
    | fail)
    rename_i n1 h1
    generalize n = n2 at *
    have n12 : ¬ n1 = n2 := hn.1.2
    have n21 : ¬ n2 = n1 := hn.1.1
    have e1 : H n1 = none := h1
    have e2 : H n2 = none := hn.2
    obtain ⟨G, hG⟩ : ∃ G : Heap, G = upd (upd H n1 (.r 30 6 1 [[.c (.int .u64 c0), .c (.int .u64 c1), .c (.int .i64 c2), .c (.int .i64 c3), .c (.int .i64 c4), .l 4 (l.map Pd.av)]])) n2 (.r 30 6 1 [zcl]) := ⟨_, rfl⟩
    have g1 : G n1 = some (.r 30 6 1 [[.c (.int .u64 c0), .c (.int .u64 c1), .c (.int .i64 c2), .c (.int .i64 c3), .c (.int .i64 c4), .l 4 (l.map Pd.av)]]) := by rw [hG, upd_ne n12, upd_same]
    have g2 : G n2 = some (.r 30 6 1 [zcl]) := by rw [hG, upd_same]
    have hle : Heap.le H G := by rw [hG]; (repeat' (first | exact Heap.le_refl _ | refine hle_upd2 ?_ _ _ | (refine Heap.le_new ?_ ?_; rotate_left 1; focus (first | assumption | (simp only [upd_none2, upd_get, ne_eq, push_cast, seval, *]; done) | (simp [upd_get, *]; done)))))
    rw [show upd (upd H n1 (.r 30 6 1 [[.c (.int .u64 c0), .c (.int .u64 c1), .c (.int .i64 c2), .c (.int .i64 c3), .c (.int .i64 c4), .l 4 (l.map Pd.av)]])) n2 (.r 30 6 1 [zcl]) = G from hG.symm]
    clear hG h1 hn htk
    refine does_call rfl rfl ?_
    simp only [push_cast, seval, *]
    refine ACall.mono (unhid hcb G) ?_
    rintro _ S ⟨y, rfl, ho⟩
    have s1 := ho.get g1
    have s2 := ho.get g2
    have ycs := ho.cs
    have yone := ho.one
    have o1 := ne_old s1
    have o2 := ne_old s2
    replace ho := Lib.hid ho
    replace hle := Lib.hid hle
    replace e1 := Lib.hid e1
    replace e2 := Lib.hid e2
    clear hcb
    simp only [zcl] at s2
    (try simp only [push_cast, seval, *])
    repeat' (first
    | refine AW_seq_kn fun K hK => ?_
    | refine AW_block ?_
    | (refine does_call rfl rfl ?_; simp only [push_cast, seval, *]; refine ACall.monoP (hnum _) ?_; (try simp only [push_cast, seval, *]))
    | ((first
      | refine AW_region E0 ?_ | refine AW_ret ?_ | refine AW_exit ?_ | refine AW_skip ?_ | unfold retQ); try simp only [push_cast, seval, *])
    | ((first | (apply AW_cond; (case hc => (simp only [push_cast, seval]; rfl))) | (apply ER_guard; (case hb => (simp only [push_cast, seval]; rfl)))); all_goals ((intro hc; first | (exfalso; simp only [push_cast, seval, *] at hc; done) | (exact absurd hc (by decide)) | ((try first | rw [Bool.not_true] at hc | rw [Bool.not_false] at hc); first | (with_reducible replace hc := tTT hc); clear hc | (with_reducible replace hc := tFF hc); clear hc | (have hp := hc; try simp only [decide_eq_true_eq, decide_eq_false_iff_not, bA, bB, bC, bD, bE, bF, bG, bH] at hp))) <;> try simp only [push_cast, seval, *]))
    | (refine Kn.go hK ?_; clear hK K)
    | refine Kn.go (by assumption) ?_
    | (intro n hn; (try simp only [upd_none2, join_none_iff, ite_none, ne_eq] at hn); (try simp only [push_cast, seval, *]))
    | (intro hc)
    | (apply ER_blk; (case hp => rfl); (case hb => (simp only [push_cast, seval]; rfl)); (case hd => (simp only [push_cast, seval]; done)); (case h => (intro hc; simp only [push_cast, seval, *]; rfl)); simp only [push_cast, seval, *])
    | fail)
    have ho1 := (Loc.own _ _ _ _).turn (unhid ho) g1 (.r 30 6 1 [[.c (.int .u64 c0), .c (.int .u64 (c1 + 1)), .c (.int .i64 c2), .c (.int .i64 c3), .c (.int .i64 c4), y]])
    refine does_app1 rfl rfl rfl rfl ho1 (by simp only [upd_none2, push_cast, seval, *]) hE4 hS4 hB4 hZ4 rfl (by decide) (by simp only [hlm, maxLen]; omega) (by simp only [hlm]; omega) ?_
    intro x X hx
    have x1 := hx.get (upd_same _ n1 _)
    have x2 := hx.get (show _ = some (.r 30 6 1 [zcl]) by rw [upd_ne n21]; exact g2)
    have xcs := hx.cs
    have xone := hx.one
    obtain ⟨X2, v1, v2, v3⟩ := (Loc.own _ _ _ _).cutx hx (K := H) (le_skip (unhid hle) (unhid e1))
    have v4 := v3 n1 (by rw [upd_same]; simp) (unhid e1)
    have v5 := v3 n2 (by rw [upd_ne n21, g2]; simp) (unhid e2)
    replace v1 := Lib.hid v1
    replace v2 := Lib.hid v2
    replace v4 := Lib.hid v4
    replace v5 := Lib.hid v5
    clear hx v3 ho1 ho o1 o2 s1 s2 ycs yone
    simp only [zcl] at x2
    (try simp only [push_cast, seval, *])
    repeat' (first
    | refine AW_seq_kn fun K hK => ?_
    | refine AW_block ?_
    | ((first
      | refine AW_region E0 ?_ | refine AW_ret ?_ | refine AW_exit ?_ | refine AW_skip ?_ | unfold retQ); try simp only [push_cast, seval, *])
    | ((first | (apply AW_cond; (case hc => (simp only [push_cast, seval]; rfl))) | (apply ER_guard; (case hb => (simp only [push_cast, seval]; rfl)))); all_goals ((intro hc; first | (exfalso; simp only [push_cast, seval, *] at hc; done) | (exact absurd hc (by decide)) | ((try first | rw [Bool.not_true] at hc | rw [Bool.not_false] at hc); first | (with_reducible replace hc := tTT hc); clear hc | (with_reducible replace hc := tFF hc); clear hc | (have hp := hc; try simp only [decide_eq_true_eq, decide_eq_false_iff_not, bA, bB, bC, bD, bE, bF, bG, bH] at hp))) <;> try simp only [push_cast, seval, *]))
    | (refine Kn.go hK ?_; clear hK K)
    | refine Kn.go (by assumption) ?_
    | (intro n hn; (try simp only [upd_none2, join_none_iff, ite_none, ne_eq] at hn); (try simp only [push_cast, seval, *]))
    | (intro hc)
    | (apply ER_blk; (case hp => rfl); (case hb => (simp only [push_cast, seval]; rfl)); (case hd => (simp only [push_cast, seval]; done)); (case h => (intro hc; simp only [push_cast, seval, *]; rfl)); simp only [push_cast, seval, *])
    | fail)
    exact ⟨_, H, Weak.trans (Weak.less (H' := X2) (by repeat' (first | exact unhid v1 | refine le_skip ?_ (unhid v4) | refine le_skip ?_ (unhid v5)))) (own_c3 (c := ⟨c0, c1 + 1, c2, c3, c4, l ++ [⟨N, now, save, []⟩]⟩) (unhid v2) (new_row l N now save)), rfl, rfl⟩
end Go.Proofs.Ytlbdpnlmdcajbaa
