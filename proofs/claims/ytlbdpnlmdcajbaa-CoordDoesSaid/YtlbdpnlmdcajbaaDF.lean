import Derived.Test.YtlbdpnlmdcajbaaDC
import Derived.Test.YtlbdpnlmdcajbaaV
import Derived.Test.YtlbdpnlmdcajbaaT
import Derived.Test.YtlbdpnlmdcajbaaZR
/- The document's Late and Restart. -/
namespace Go.Proofs.Ytlbdpnlmdcajbaa
open Go.RowKit
open Nat renaming reduceEqDiff → nA, reduceLT → nB, reduceLeDiff → nC, reduceAdd → nD, reduceMul → nE, reduceSub → nF, reduceBEq → nG
open Int renaming reduceToNat → iA, reduceLT → iB, reduceLE → iC, reduceEq → iD
open Bool renaming and_eq_true → bA, or_eq_true → bB, or_eq_false_iff → bC, and_eq_false_iff → bD, not_eq_true' → bE, not_eq_false' → bF, not_true → bG, not_false → bH
set_option linter.all false
set_option maxHeartbeats 4000000
attribute [local irreducible] AW Does ACall tE tS tB tZ
set_option maxRecDepth 5000

theorem own_cg {c : Cd} {x g : AV} {X Y H : Heap} {gs : List Int} {a : Value} (h : OwnL X x 61 4 (c.pend.map Pd.av) Y) (hg : OwnL Y g 25 1 (gs.map iu) H) : Weak (.t [.g (c.cl x), g, .c a]) X (.t [.g c.av, .l 1 (gs.map iu), .c a]) H :=
  ((OwnL.wp h).seq (OwnL.wp hg)).weak fun F F' hF ⟨F1, f1, f2, hi, hj⟩ => Imp.t (Imps.cons (Imp_cl hF c (hi.1.up f2) rfl) (fun h => by cases h) (Imps.cons (hj.1.down f1) (fun _ => rfl) (Imps.cons (Imp.refl hF _) id Imps.nil)))
theorem own_zg {c : Cd} {g : AV} {Y H : Heap} {gs : List Int} {a : Value} (hc : c.pend = []) (hg : OwnL Y g 25 1 (gs.map iu) H) : Weak (.t [.g (c.cl (.c (.slice none 0 0))), g, .c a]) Y (.t [.g c.av, .l 1 (gs.map iu), .c a]) H :=
  (OwnL.wp hg).weak fun F F' hF hj => by
    have e : c.av = c.cl (.l 4 []) := by rw [← Cd.cl_av, hc]; rfl
    rw [e]
    exact Imp.t (Imps.cons (Imp_cl hF c (Imp.down hF (Imp.nil_l 4)) rfl) (fun h => by cases h) (Imps.cons hj.1 (fun _ => rfl) (Imps.cons (Imp.refl hF _) id Imps.nil)))
theorem filter_snoc {α : Type} {l : List α} {k : Nat} {x : α} (p : α → Bool) (hx : l[k]? = some x) : (l.take (k + 1)).filter p = (l.take k).filter p ++ if p x = true then [x] else [] := by
  rw [take_snoc hx, List.filter_append]
  cases h : p x <;> simp [h]
theorem refRestart_p (c : Cd) (hl2 : c.pend.length ≤ 2) (ts at_ : Int) : Pure Try.prog 46 [.g (Cd.av c), .c (.int .i64 ts), .c (.int .i64 at_)] (.t [.g (if restE c ts at_ = 0 then restC c ts at_ else zeroC).av, .l 1 ((if restE c ts at_ = 0 then c.pend.map Pd.num else []).map iu), .c (.int .i64 (restE c ts at_))]) := by
  intro H
  have hts := refTasks_p ts
  have hat := refAttempt_p at_
  have hE : restE c ts at_ = if (decide (1 ≤ ts) && decide (ts ≤ 16)) = false then 2 else if (decide (1 ≤ at_) && decide (at_ ≤ 1048576)) = false then 2 else if at_ ≤ c.attempt then 321 else 0 := rfl
  have hC : restC c ts at_ = { c with tasks := ts, attempt := at_, pend := [] } := rfl
  rw [hC]
  generalize restE c ts at_ = E at *
  obtain ⟨c0, c1, c2, c3, c4, l⟩ := c
  simp only at hl2 hE ⊢
  have hav : ∀ a0 a1 a2 a3 a4 a5, Cd.av ⟨a0, a1, a2, a3, a4, a5⟩ = [.c (.int .u64 a0), .c (.int .u64 a1), .c (.int .i64 a2), .c (.int .i64 a3), .c (.int .i64 a4), .l 4 (a5.map Pd.av)] := fun _ _ _ _ _ _ => rfl
  rw [hav c0 c1 c2 c3 c4 l]
  have hz2 := zc3n H
  replace hz2 := Lib.hid hz2
  clear hC hav
  have hcase : (E = 2 ∧ (((decide (1 ≤ ts) && decide (ts ≤ 16)) = false) ∨ ((decide (1 ≤ ts) && decide (ts ≤ 16)) = true ∧ (decide (1 ≤ at_) && decide (at_ ≤ 1048576)) = false))) ∨ (((decide (1 ≤ ts) && decide (ts ≤ 16)) = true ∧ (decide (1 ≤ at_) && decide (at_ ≤ 1048576)) = true) ∧ ((E = 321 ∧ at_ ≤ c3) ∨ (E = 0 ∧ ¬ at_ ≤ c3))) := by
    cases hA : (decide (1 ≤ ts) && decide (ts ≤ 16))
    · rw [hA, if_pos rfl] at hE; exact .inl ⟨hE, .inl rfl⟩
    rw [hA, if_neg (by decide)] at hE
    cases hB : (decide (1 ≤ at_) && decide (at_ ≤ 1048576))
    · rw [hB, if_pos rfl] at hE; exact .inl ⟨hE, .inr ⟨rfl, rfl⟩⟩
    rw [hB, if_neg (by decide)] at hE
    by_cases h : at_ ≤ c3
    · rw [if_pos h] at hE; exact .inr ⟨⟨rfl, rfl⟩, .inl ⟨hE, h⟩⟩
    · rw [if_neg h] at hE; exact .inr ⟨⟨rfl, rfl⟩, .inr ⟨hE, h⟩⟩
  clear hE
  rcases hcase with ⟨rfl, hA⟩ | ⟨⟨hA, hB⟩, hc⟩
  · rw [if_neg (by decide), if_neg (by decide)]
    rcases hA with hA | ⟨hA, hB⟩
    · rw [hA] at hts
      clear hA hat
      refine ACall_of' Try.func46 rfl (Ent_of Try.func46 (by kernel_rfl) rfl) (by simp [Try.ntmps46]) ?_; simp only [Try.ntmps46, Try.results46]
      repeat' (first
    | refine AW_seq_kn fun K hK => ?_
    | refine AW_block ?_
    | (refine does_call rfl rfl ?_; simp only [push_cast, seval, *]; refine ACall.monoP (hts _) ?_; (try simp only [push_cast, seval, *]))
    | ((first
      | refine AW_region E0 ?_ | refine AW_ret ?_ | refine AW_exit ?_ | refine AW_skip ?_ | unfold retQ); try simp only [push_cast, seval, *])
    | ((first | (apply AW_cond; (case hc => (simp only [push_cast, seval]; rfl))) | (apply ER_guard; (case hb => (simp only [push_cast, seval]; rfl)))); all_goals ((intro hc; first | (exfalso; simp only [push_cast, seval, *] at hc; done) | (exact absurd hc (by decide)) | ((try first | rw [Bool.not_true] at hc | rw [Bool.not_false] at hc); first | (with_reducible replace hc := tTT hc); clear hc | (with_reducible replace hc := tFF hc); clear hc | (have hp := hc; try simp only [decide_eq_true_eq, decide_eq_false_iff_not, bA, bB, bC, bD, bE, bF, bG, bH] at hp))) <;> try simp only [push_cast, seval, *]))
    | (refine Kn.go hK ?_; clear hK K)
    | refine Kn.go (by assumption) ?_
    | (intro n hn; (try simp only [upd_none2, join_none_iff, ite_none, ne_eq] at hn); (try simp only [push_cast, seval, *]))
    | (intro hc)
    | (apply ER_blk; (case hp => rfl); (case hb => (simp only [push_cast, seval]; rfl)); (case hd => (simp only [push_cast, seval]; done)); (case h => (intro hc; simp only [push_cast, seval, *]; rfl)); simp only [push_cast, seval, *])
    | fail)
      exact ⟨_, H, Weak.trans (Weak.less (by (repeat' (first | exact Heap.le_refl _ | refine hle_upd2 ?_ _ _ | (refine Heap.le_new ?_ ?_; rotate_left 1; focus (first | assumption | (simp only [upd_none2, upd_get, ne_eq, push_cast, seval, *]; done) | (simp [upd_get, *]; done))))))) (unhid hz2 _), rfl, rfl⟩
    · rw [hA] at hts
      rw [hB] at hat
      clear hA hB
      refine ACall_of' Try.func46 rfl (Ent_of Try.func46 (by kernel_rfl) rfl) (by simp [Try.ntmps46]) ?_; simp only [Try.ntmps46, Try.results46]
      repeat' (first
    | refine AW_seq_kn fun K hK => ?_
    | refine AW_block ?_
    | (refine does_call rfl rfl ?_; simp only [push_cast, seval, *]; refine ACall.monoP (hts _) ?_; (try simp only [push_cast, seval, *]))
    | (refine does_call rfl rfl ?_; simp only [push_cast, seval, *]; refine ACall.monoP (hat _) ?_; (try simp only [push_cast, seval, *]))
    | ((first
      | refine AW_region E0 ?_ | refine AW_ret ?_ | refine AW_exit ?_ | refine AW_skip ?_ | unfold retQ); try simp only [push_cast, seval, *])
    | ((first | (apply AW_cond; (case hc => (simp only [push_cast, seval]; rfl))) | (apply ER_guard; (case hb => (simp only [push_cast, seval]; rfl)))); all_goals ((intro hc; first | (exfalso; simp only [push_cast, seval, *] at hc; done) | (exact absurd hc (by decide)) | ((try first | rw [Bool.not_true] at hc | rw [Bool.not_false] at hc); first | (with_reducible replace hc := tTT hc); clear hc | (with_reducible replace hc := tFF hc); clear hc | (have hp := hc; try simp only [decide_eq_true_eq, decide_eq_false_iff_not, bA, bB, bC, bD, bE, bF, bG, bH] at hp))) <;> try simp only [push_cast, seval, *]))
    | (refine Kn.go hK ?_; clear hK K)
    | refine Kn.go (by assumption) ?_
    | (intro n hn; (try simp only [upd_none2, join_none_iff, ite_none, ne_eq] at hn); (try simp only [push_cast, seval, *]))
    | (intro hc)
    | (apply ER_blk; (case hp => rfl); (case hb => (simp only [push_cast, seval]; rfl)); (case hd => (simp only [push_cast, seval]; done)); (case h => (intro hc; simp only [push_cast, seval, *]; rfl)); simp only [push_cast, seval, *])
    | fail)
      exact ⟨_, H, Weak.trans (Weak.less (by (repeat' (first | exact Heap.le_refl _ | refine hle_upd2 ?_ _ _ | (refine Heap.le_new ?_ ?_; rotate_left 1; focus (first | assumption | (simp only [upd_none2, upd_get, ne_eq, push_cast, seval, *]; done) | (simp [upd_get, *]; done))))))) (unhid hz2 _), rfl, rfl⟩
  rw [hA] at hts
  rw [hB] at hat
  clear hA hB
  rcases hc with ⟨rfl, hle⟩ | ⟨rfl, hle⟩
  · rw [if_neg (by decide), if_neg (by decide)]
    refine ACall_of' Try.func46 rfl (Ent_of Try.func46 (by kernel_rfl) rfl) (by simp [Try.ntmps46]) ?_; simp only [Try.ntmps46, Try.results46]
    repeat' (first
    | refine AW_seq_kn fun K hK => ?_
    | refine AW_block ?_
    | (refine does_call rfl rfl ?_; simp only [push_cast, seval, *]; refine ACall.monoP (hts _) ?_; (try simp only [push_cast, seval, *]))
    | (refine does_call rfl rfl ?_; simp only [push_cast, seval, *]; refine ACall.monoP (hat _) ?_; (try simp only [push_cast, seval, *]))
    | ((first
      | refine AW_region E0 ?_ | refine AW_ret ?_ | refine AW_exit ?_ | refine AW_skip ?_ | unfold retQ); try simp only [push_cast, seval, *])
    | ((first | (apply AW_cond; (case hc => (simp only [push_cast, seval]; rfl))) | (apply ER_guard; (case hb => (simp only [push_cast, seval]; rfl)))); all_goals ((intro hc; first | (exfalso; simp only [push_cast, seval, *] at hc; done) | (exact absurd hc (by decide)) | ((try first | rw [Bool.not_true] at hc | rw [Bool.not_false] at hc); first | (with_reducible replace hc := tTT hc); clear hc | (with_reducible replace hc := tFF hc); clear hc | (have hp := hc; try simp only [decide_eq_true_eq, decide_eq_false_iff_not, bA, bB, bC, bD, bE, bF, bG, bH] at hp))) <;> try simp only [push_cast, seval, *]))
    | (refine Kn.go hK ?_; clear hK K)
    | refine Kn.go (by assumption) ?_
    | (intro n hn; (try simp only [upd_none2, join_none_iff, ite_none, ne_eq] at hn); (try simp only [push_cast, seval, *]))
    | (intro hc)
    | (apply ER_blk; (case hp => rfl); (case hb => (simp only [push_cast, seval]; rfl)); (case hd => (simp only [push_cast, seval]; done)); (case h => (intro hc; simp only [push_cast, seval, *]; rfl)); simp only [push_cast, seval, *])
    | fail)
    exact ⟨_, H, Weak.trans (Weak.less (by (repeat' (first | exact Heap.le_refl _ | refine hle_upd2 ?_ _ _ | (refine Heap.le_new ?_ ?_; rotate_left 1; focus (first | assumption | (simp only [upd_none2, upd_get, ne_eq, push_cast, seval, *]; done) | (simp [upd_get, *]; done))))))) (unhid hz2 _), rfl, rfl⟩
  rw [if_pos rfl, if_pos rfl]
  clear hz2
  have hE1 := tE41
  have hS1 := tS25
  have hB1 := tB25
  have hZ1 := tZ25
  refine ACall_of' Try.func46 rfl (Ent_of Try.func46 (by kernel_rfl) rfl) (by simp [Try.ntmps46]) ?_; simp only [Try.ntmps46, Try.results46]
  repeat' (first
    | refine AW_seq_kn fun K hK => ?_
    | refine AW_block ?_
    | (refine does_call rfl rfl ?_; simp only [push_cast, seval, *]; refine ACall.monoP (hts _) ?_; (try simp only [push_cast, seval, *]))
    | (refine does_call rfl rfl ?_; simp only [push_cast, seval, *]; refine ACall.monoP (hat _) ?_; (try simp only [push_cast, seval, *]))
    | ((first
      | refine AW_region E0 ?_ | refine AW_ret ?_ | refine AW_exit ?_ | refine AW_skip ?_ | unfold retQ); try simp only [push_cast, seval, *])
    | ((first | (apply AW_cond; (case hc => (simp only [push_cast, seval]; rfl))) | (apply ER_guard; (case hb => (simp only [push_cast, seval]; rfl)))); all_goals ((intro hc; first | (exfalso; simp only [push_cast, seval, *] at hc; done) | (exact absurd hc (by decide)) | ((try first | rw [Bool.not_true] at hc | rw [Bool.not_false] at hc); first | (with_reducible replace hc := tTT hc); clear hc | (with_reducible replace hc := tFF hc); clear hc | (have hp := hc; try simp only [decide_eq_true_eq, decide_eq_false_iff_not, bA, bB, bC, bD, bE, bF, bG, bH] at hp))) <;> try simp only [push_cast, seval, *]))
    | (refine Kn.go hK ?_; clear hK K)
    | refine Kn.go (by assumption) ?_
    | (intro n hn; (try simp only [upd_none2, join_none_iff, ite_none, ne_eq] at hn); (try simp only [push_cast, seval, *]))
    | (intro hc)
    | (apply ER_blk; (case hp => rfl); (case hb => (simp only [push_cast, seval]; rfl)); (case hd => (simp only [push_cast, seval]; done)); (case h => (intro hc; simp only [push_cast, seval, *]; rfl)); simp only [push_cast, seval, *])
    | fail)
  rename_i n1 h1
  generalize n = n2 at *
  have n12 : ¬ n1 = n2 := hn.1.2
  have n21 : ¬ n2 = n1 := hn.1.1
  have e1 : H n1 = none := h1
  have e2 : H n2 = none := hn.2
  obtain ⟨G, hG⟩ : ∃ G : Heap, G = upd (upd H n1 (.r 30 6 1 [[.c (.int .u64 c0), .c (.int .u64 c1), .c (.int .i64 c2), .c (.int .i64 c3), .c (.int .i64 c4), .l 4 (l.map Pd.av)]])) n2 (.r 30 6 1 [zcl]) := ⟨_, rfl⟩
  have g1 : G n1 = some (.r 30 6 1 [[.c (.int .u64 c0), .c (.int .u64 c1), .c (.int .i64 c2), .c (.int .i64 c3), .c (.int .i64 c4), .l 4 (l.map Pd.av)]]) := by rw [hG, upd_ne n12, upd_same]
  have g2 : G n2 = some (.r 30 6 1 [zcl]) := by rw [hG, upd_same]
  have hleG : Heap.le H G := by rw [hG]; (repeat' (first | exact Heap.le_refl _ | refine hle_upd2 ?_ _ _ | (refine Heap.le_new ?_ ?_; rotate_left 1; focus (first | assumption | (simp only [upd_none2, upd_get, ne_eq, push_cast, seval, *]; done) | (simp [upd_get, *]; done)))))
  rw [show upd (upd H n1 (.r 30 6 1 [[.c (.int .u64 c0), .c (.int .u64 c1), .c (.int .i64 c2), .c (.int .i64 c3), .c (.int .i64 c4), .l 4 (l.map Pd.av)]])) n2 (.r 30 6 1 [zcl]) = G from hG.symm]
  clear hG h1 hn hts hat
  replace hleG := Lib.hid hleG
  replace e1 := Lib.hid e1
  replace e2 := Lib.hid e2
  refine AW_loopX (σ := AV × Heap) l.length (fun k s => OwnL s.2 s.1 25 1 (((l.take k).map Pd.num).map iu) G) (fun k s => [(1, .c (.int .i64 ts)), (2, .c (.int .i64 at_)), (3, .p n1 6 0 0), (6, .p n2 6 0 0), (9, s.1), (29, .l 4 (l.map Pd.av)), (30, ci l.length), (31, ci k)]) (fun _ s => s.2) (.c (.slice none 0 0), G) (OwnL.nil _ _ _) ?_ ?_ ?_ ?_
  · (first | trivial | (simp only [push_cast, seval, *]; done))
  · exact Heap.le_refl _
  · rintro k ⟨z, S⟩ hk ho
    simp only at ho
    have hp := List.getElem?_eq_getElem (l := l) hk; generalize l[k] = p at hp; have hpm := List.mem_of_getElem? hp; have hkl : (k : Int) < l.length := (by omega); have hkw : IntKind.i64.wrap ((k : Int) + 1) = (k : Int) + 1 := wrap_i64 (by omega) (by omega)
    have hsn : ((l.take (k + 1)).map Pd.num).map iu = ((l.take k).map Pd.num).map iu ++ [[.c (.int .u64 p.num)]] := by rw [take_snoc hp, List.map_append, List.map_append]; rfl
    have hlk : (((l.take k).map Pd.num).map iu).length ≤ 2 := by simp; omega
    obtain ⟨num, bg, sv, ac⟩ := p
    have hpv : Pd.av ⟨num, bg, sv, ac⟩ = [.c (.int .u64 num), .c (.int .i64 bg), .c (.bool sv), .l 2 (ac.map Ak.av)] := rfl
    simp only at hsn
    generalize ((l.take k).map Pd.num).map iu = R0 at *
    generalize ((l.take (k + 1)).map Pd.num).map iu = R1 at *
    subst hsn
    have zcs := ho.cs
    have zone := ho.one
    replace ho := Lib.hid ho
    clear hpm
    repeat' (first
    | refine AW_seq_kn fun K hK => ?_
    | refine AW_block ?_
    | ((first
      | refine AW_region E0 ?_ | refine AW_ret ?_ | refine AW_exit ?_ | refine AW_skip ?_ | unfold retQ); try simp only [push_cast, seval, *])
    | ((first | (apply AW_cond; (case hc => (simp only [push_cast, seval]; rfl))) | (apply ER_guard; (case hb => (simp only [push_cast, seval]; rfl)))); all_goals ((intro hc; first | (exfalso; simp only [push_cast, seval, *] at hc; done) | (exact absurd hc (by decide)) | ((try first | rw [Bool.not_true] at hc | rw [Bool.not_false] at hc); first | (with_reducible replace hc := tTT hc); clear hc | (with_reducible replace hc := tFF hc); clear hc | (have hp := hc; try simp only [decide_eq_true_eq, decide_eq_false_iff_not, bA, bB, bC, bD, bE, bF, bG, bH] at hp))) <;> try simp only [push_cast, seval, *]))
    | (refine Kn.go hK ?_; clear hK K)
    | refine Kn.go (by assumption) ?_
    | (intro n hn; (try simp only [upd_none2, join_none_iff, ite_none, ne_eq] at hn); (try simp only [push_cast, seval, *]))
    | (intro hc)
    | (apply ER_blk; (case hp => rfl); (case hb => (simp only [push_cast, seval]; rfl)); (case hd => (simp only [push_cast, seval]; done)); (case h => (intro hc; simp only [push_cast, seval, *]; rfl)); simp only [push_cast, seval, *])
    | fail)
    rename_i n9 h9
    refine does_app1 rfl rfl rfl rfl ((Loc.own _ _ _ _).new (unhid ho) h9 _) (by simp only [upd_none2, push_cast, seval, *]) hE1 hS1 hB1 hZ1 rfl (by decide) (by simp only [maxLen]; omega) (by omega) ?_
    intro z2 H2 hz2
    have zcs2 := hz2.cs
    have zone2 := hz2.one
    obtain ⟨H3, l1, l2⟩ := (Loc.own _ _ _ _).cut hz2 (K := G) (le_upd_new ((Loc.own _ _ _ _).old (unhid ho) h9))
    replace l1 := Lib.hid l1
    replace l2 := Lib.hid l2
    clear hz2 zcs zone
    (try simp only [push_cast, seval, *])
    repeat' (first
    | refine AW_seq_kn fun K hK => ?_
    | refine AW_block ?_
    | ((first
      | refine AW_region E0 ?_ | refine AW_ret ?_ | refine AW_exit ?_ | refine AW_skip ?_ | unfold retQ); try simp only [push_cast, seval, *])
    | ((first | (apply AW_cond; (case hc => (simp only [push_cast, seval]; rfl))) | (apply ER_guard; (case hb => (simp only [push_cast, seval]; rfl)))); all_goals ((intro hc; first | (exfalso; simp only [push_cast, seval, *] at hc; done) | (exact absurd hc (by decide)) | ((try first | rw [Bool.not_true] at hc | rw [Bool.not_false] at hc); first | (with_reducible replace hc := tTT hc); clear hc | (with_reducible replace hc := tFF hc); clear hc | (have hp := hc; try simp only [decide_eq_true_eq, decide_eq_false_iff_not, bA, bB, bC, bD, bE, bF, bG, bH] at hp))) <;> try simp only [push_cast, seval, *]))
    | (refine Kn.go hK ?_; clear hK K)
    | refine Kn.go (by assumption) ?_
    | (intro n hn; (try simp only [upd_none2, join_none_iff, ite_none, ne_eq] at hn); (try simp only [push_cast, seval, *]))
    | (intro hc)
    | (apply ER_blk; (case hp => rfl); (case hb => (simp only [push_cast, seval]; rfl)); (case hd => (simp only [push_cast, seval]; done)); (case h => (intro hc; simp only [push_cast, seval, *]; rfl)); simp only [push_cast, seval, *])
    | fail)
    exact ⟨(z2, H3), unhid l2, by (first | trivial | (simp only [push_cast, seval, *]; done)), unhid l1⟩
  · rintro ⟨z, S⟩ ho
    simp only [List.take_length] at ho
    have s1 := ho.get g1
    have s2 := ho.get g2
    have zcs := ho.cs
    have zone := ho.one
    obtain ⟨X2, v1, v2, v3⟩ := (Loc.own _ _ _ _).cutx ho (unhid hleG)
    have v4 := v3 n1 (by rw [g1]; simp) (unhid e1)
    have v5 := v3 n2 (by rw [g2]; simp) (unhid e2)
    replace v1 := Lib.hid v1
    replace v2 := Lib.hid v2
    replace v4 := Lib.hid v4
    replace v5 := Lib.hid v5
    clear ho v3
    simp only [zcl] at s2
    generalize l.map Pd.num = gs at *
    repeat' (first
    | refine AW_seq_kn fun K hK => ?_
    | refine AW_block ?_
    | ((first
      | refine AW_region E0 ?_ | refine AW_ret ?_ | refine AW_exit ?_ | refine AW_skip ?_ | unfold retQ); try simp only [push_cast, seval, *])
    | ((first | (apply AW_cond; (case hc => (simp only [push_cast, seval]; rfl))) | (apply ER_guard; (case hb => (simp only [push_cast, seval]; rfl)))); all_goals ((intro hc; first | (exfalso; simp only [push_cast, seval, *] at hc; done) | (exact absurd hc (by decide)) | ((try first | rw [Bool.not_true] at hc | rw [Bool.not_false] at hc); first | (with_reducible replace hc := tTT hc); clear hc | (with_reducible replace hc := tFF hc); clear hc | (have hp := hc; try simp only [decide_eq_true_eq, decide_eq_false_iff_not, bA, bB, bC, bD, bE, bF, bG, bH] at hp))) <;> try simp only [push_cast, seval, *]))
    | (refine Kn.go hK ?_; clear hK K)
    | refine Kn.go (by assumption) ?_
    | (intro n hn; (try simp only [upd_none2, join_none_iff, ite_none, ne_eq] at hn); (try simp only [push_cast, seval, *]))
    | (intro hc)
    | (apply ER_blk; (case hp => rfl); (case hb => (simp only [push_cast, seval]; rfl)); (case hd => (simp only [push_cast, seval]; done)); (case h => (intro hc; simp only [push_cast, seval, *]; rfl)); simp only [push_cast, seval, *])
    | fail)
    exact ⟨_, H, Weak.trans (Weak.less (H' := X2) (by repeat' (first | exact unhid v1 | refine le_skip ?_ (unhid v4) | refine le_skip ?_ (unhid v5)))) (own_zg (c := ⟨c0, c1, ts, at_, c4, []⟩) rfl (unhid v2)), rfl, rfl⟩
end Go.Proofs.Ytlbdpnlmdcajbaa

/- The document's Late. -/
namespace Go.Proofs.Ytlbdpnlmdcajbaa
open Go.RowKit
open Nat renaming reduceEqDiff → nA, reduceLT → nB, reduceLeDiff → nC, reduceAdd → nD, reduceMul → nE, reduceSub → nF, reduceBEq → nG
open Int renaming reduceToNat → iA, reduceLT → iB, reduceLE → iC, reduceEq → iD
open Bool renaming and_eq_true → bA, or_eq_true → bB, or_eq_false_iff → bC, and_eq_false_iff → bD, not_eq_true' → bE, not_eq_false' → bF, not_true → bG, not_false → bH
set_option linter.all false
set_option maxHeartbeats 4000000
attribute [local irreducible] AW Does ACall tE tS tB tZ
set_option maxRecDepth 5000

theorem refLate_p (c : Cd) (hok : cdOk c = true) (now : Int) : Pure Try.prog 44 [.g (Cd.av c), .c (.int .i64 now)] (.t [.g (tickR c now).1.av, .l 1 ((tickR c now).2.1.map iu), .c (.int .i64 (tickR c now).2.2)]) := by
  intro H
  have hcp := Copy_p c (small_of hok)
  have htk := refTick_p now
  have hl2 := (cdOk_bd hok).1
  have hbg : ∀ p ∈ c.pend, 0 ≤ p.begun ∧ p.begun ≤ 1099511627776 := pdGo_bg c c.pend 0 0 (Int.le_refl _) ((cdOk_iff c).1 hok).2
  have hC : tickR c now = if tickE now = 0 then ({ c with pend := c.pend.filter fun p => !lateP c now p }, (c.pend.filter (lateP c now)).map Pd.num, 0) else (zeroC, [], tickE now) := by unfold tickR; rw [if_neg (by rw [hok]; decide)]
  rw [hC]
  have hlt : ∀ p, lateP c now p = decide (c.span ≤ now - p.begun) := fun _ => rfl
  unfold tickE
  generalize lateP c now = LP at *
  obtain ⟨c0, c1, c2, c3, c4, l⟩ := c
  simp only at hl2 hbg hlt ⊢
  have hav : ∀ a0 a1 a2 a3 a4 a5, Cd.av ⟨a0, a1, a2, a3, a4, a5⟩ = [.c (.int .u64 a0), .c (.int .u64 a1), .c (.int .i64 a2), .c (.int .i64 a3), .c (.int .i64 a4), .l 4 (a5.map Pd.av)] := fun _ _ _ _ _ _ => rfl
  rw [hav c0 c1 c2 c3 c4 l] at hcp ⊢
  have hz2 := zc3n H
  replace hz2 := Lib.hid hz2
  clear hC hav hok
  cases hW : (decide (0 ≤ now) && decide (now ≤ 1099511627776))
  · rw [hW] at htk
    simp only [Bool.false_eq_true, if_false]
    rw [if_neg (by decide)]
    clear hcp hbg hlt hW
    refine ACall_of' Try.func44 rfl (Ent_of Try.func44 (by kernel_rfl) rfl) (by simp [Try.ntmps44]) ?_; simp only [Try.ntmps44, Try.results44]
    repeat' (first
    | refine AW_seq_kn fun K hK => ?_
    | refine AW_block ?_
    | (refine does_call rfl rfl ?_; simp only [push_cast, seval, *]; refine ACall.monoP (htk _) ?_; (try simp only [push_cast, seval, *]))
    | ((first
      | refine AW_region E0 ?_ | refine AW_ret ?_ | refine AW_exit ?_ | refine AW_skip ?_ | unfold retQ); try simp only [push_cast, seval, *])
    | (apply AW_cond; (case hc => (simp only [push_cast, seval]; rfl)); all_goals (intro hc; first | (exfalso; simp only [push_cast, seval, *] at hc; done) | (exact absurd hc (by decide)) | ((try first | rw [Bool.not_true] at hc | rw [Bool.not_false] at hc); first | (with_reducible replace hc := tTT hc); clear hc | (with_reducible replace hc := tFF hc); clear hc | (have hp := hc; try simp only [decide_eq_true_eq, decide_eq_false_iff_not, bA, bB, bC, bD, bE, bF, bG, bH] at hp))))
    | (refine Kn.go hK ?_; clear hK K)
    | refine Kn.go (by assumption) ?_
    | (intro n hn; (try simp only [upd_none2, join_none_iff, ite_none, ne_eq] at hn); (try simp only [push_cast, seval, *]))
    | (intro hc)
    | fail)
    exact ⟨_, H, Weak.trans (Weak.less (by (repeat' (first | exact Heap.le_refl _ | refine hle_upd2 ?_ _ _ | (refine Heap.le_new ?_ ?_; rotate_left 1; focus (first | assumption | (simp only [upd_none2, upd_get, ne_eq, push_cast, seval, *]; done) | (simp [upd_get, *]; done))))))) (unhid hz2 _), rfl, rfl⟩
  rw [hW] at htk
  simp only [if_true]
  have hnw : 0 ≤ now ∧ now ≤ 1099511627776 := by simpa using hW
  clear hz2 hW
  have hE1 := tE41
  have hS1 := tS25
  have hB1 := tB25
  have hZ1 := tZ25
  have hE4 := tE28
  have hS4 := tS61
  have hB4 := tB61
  have hZ4 := tZ61
  replace hbg := Lib.hid hbg
  replace hlt := Lib.hid hlt
  refine ACall_of' Try.func44 rfl (Ent_of Try.func44 (by kernel_rfl) rfl) (by simp [Try.ntmps44]) ?_; simp only [Try.ntmps44, Try.results44]
  repeat' (first
    | refine AW_seq_kn fun K hK => ?_
    | refine AW_block ?_
    | (refine does_call rfl rfl ?_; simp only [push_cast, seval, *]; refine ACall.monoP (htk _) ?_; (try simp only [push_cast, seval, *]))
    | (refine does_call rfl rfl ?_; simp only [push_cast, seval, *]; refine ACall.monoP (hcp _) ?_; (try simp only [push_cast, seval, *]))
    | ((first
      | refine AW_region E0 ?_ | refine AW_ret ?_ | refine AW_exit ?_ | refine AW_skip ?_ | unfold retQ); try simp only [push_cast, seval, *])
    | (apply AW_cond; (case hc => (simp only [push_cast, seval]; rfl)); all_goals (intro hc; first | (exfalso; simp only [push_cast, seval, *] at hc; done) | (exact absurd hc (by decide)) | ((try first | rw [Bool.not_true] at hc | rw [Bool.not_false] at hc); first | (with_reducible replace hc := tTT hc); clear hc | (with_reducible replace hc := tFF hc); clear hc | (have hp := hc; try simp only [decide_eq_true_eq, decide_eq_false_iff_not, bA, bB, bC, bD, bE, bF, bG, bH] at hp))))
    | (refine Kn.go hK ?_; clear hK K)
    | refine Kn.go (by assumption) ?_
    | (intro n hn; (try simp only [upd_none2, join_none_iff, ite_none, ne_eq] at hn); (try simp only [push_cast, seval, *]))
    | (intro hc)
    | fail)
  rename_i n1 h1
  generalize n = n2 at *
  have n12 : ¬ n1 = n2 := hn.1.2
  have n21 : ¬ n2 = n1 := hn.1.1
  have e1 : H n1 = none := h1
  have e2 : H n2 = none := hn.2
  (try rw [upd_comm n21, upd_upd])
  obtain ⟨G, hG⟩ : ∃ G : Heap, G = upd (upd H n1 (.r 30 6 1 [[.c (.int .u64 c0), .c (.int .u64 c1), .c (.int .i64 c2), .c (.int .i64 c3), .c (.int .i64 c4), .l 4 (l.map Pd.av)]])) n2 (.r 30 6 1 [zcl]) := ⟨_, rfl⟩
  have g1 : G n1 = some (.r 30 6 1 [[.c (.int .u64 c0), .c (.int .u64 c1), .c (.int .i64 c2), .c (.int .i64 c3), .c (.int .i64 c4), .l 4 (l.map Pd.av)]]) := by rw [hG, upd_ne n12, upd_same]
  have g2 : G n2 = some (.r 30 6 1 [zcl]) := by rw [hG, upd_same]
  have hleG : Heap.le H G := by rw [hG]; (repeat' (first | exact Heap.le_refl _ | refine hle_upd2 ?_ _ _ | (refine Heap.le_new ?_ ?_; rotate_left 1; focus (first | assumption | (simp only [upd_none2, upd_get, ne_eq, push_cast, seval, *]; done) | (simp [upd_get, *]; done)))))
  rw [show upd (upd H n1 (.r 30 6 1 [[.c (.int .u64 c0), .c (.int .u64 c1), .c (.int .i64 c2), .c (.int .i64 c3), .c (.int .i64 c4), .l 4 (l.map Pd.av)]])) n2 (.r 30 6 1 [zcl]) = G from hG.symm]
  clear hG h1 hn htk hcp
  replace hleG := Lib.hid hleG
  replace e1 := Lib.hid e1
  replace e2 := Lib.hid e2
  refine AW_loopX (σ := AV × AV × Heap) l.length (fun k s => ∃ M, OwnL s.2.2 s.1 61 4 (((l.take k).filter fun p => !LP p).map Pd.av) M ∧ OwnL M s.2.1 25 1 ((((l.take k).filter LP).map Pd.num).map iu) G) (fun k s => [(1, .c (.int .i64 now)), (2, .p n1 6 0 0), (4, .p n2 6 0 0), (7, s.1), (8, s.2.1), (18, .l 4 (l.map Pd.av)), (19, ci l.length), (20, ci k)]) (fun _ s => s.2.2) (.c (.slice none 0 0), .c (.slice none 0 0), G) ⟨G, OwnL.nil _ _ _, OwnL.nil _ _ _⟩ ?_ ?_ ?_ ?_
  · (first | trivial | (simp only [push_cast, seval, *]; done))
  · exact Heap.le_refl _
  · rintro k ⟨x, z, S⟩ hk ⟨M, hox, hoz⟩
    (try simp only at hox hoz)
    have hp := List.getElem?_eq_getElem (l := l) hk; generalize l[k] = p at hp; have hpm := List.mem_of_getElem? hp; have hkl : (k : Int) < l.length := (by omega); have hkw : IntKind.i64.wrap ((k : Int) + 1) = (k : Int) + 1 := wrap_i64 (by omega) (by omega)
    have hb := unhid hbg p hpm
    have hp2 := unhid hlt p
    have hs1 := filter_snoc LP hp
    have hs2 := filter_snoc (fun p => !LP p) hp
    have hf1 := List.length_filter_le LP (l.take k)
    have hf2 := List.length_filter_le (fun p => !LP p) (l.take k)
    rw [List.length_take] at hf1 hf2
    (try simp only at hs1 hs2)
    rw [hp2] at hs1 hs2
    generalize (l.take k).filter LP = F at *
    generalize (l.take (k + 1)).filter LP = F' at *
    generalize (l.take k).filter (fun p => !LP p) = E at *
    generalize (l.take (k + 1)).filter (fun p => !LP p) = E' at *
    have xcs := hox.cs
    have xone := hox.one
    have zcs := hoz.cs
    have zone := hoz.one
    have g1' := hox.get (hoz.get g1)
    have o1' := ne_old g1'
    have hsub : IntKind.i64.wrap (now - p.begun) = now - p.begun := wrap_i64 (by omega) (by omega)
    obtain ⟨num, bg, sv, ac⟩ := p
    have hpv : Pd.av ⟨num, bg, sv, ac⟩ = [.c (.int .u64 num), .c (.int .i64 bg), .c (.bool sv), .l 2 (ac.map Ak.av)] := rfl
    simp only at hsub hb
    clear hpm hp2
    by_cases hq : c4 ≤ now - bg
    · rw [decide_eq_true hq] at hs1 hs2
      simp only [if_true, Bool.not_true, Bool.false_eq_true, if_false, List.append_nil] at hs1 hs2
      subst hs1
      subst hs2
      replace hox := Lib.hid hox
      replace hoz := Lib.hid hoz
      repeat' (first
    | refine AW_seq_kn fun K hK => ?_
    | refine AW_block ?_
    | ((first
      | refine AW_region E0 ?_ | refine AW_ret ?_ | refine AW_exit ?_ | refine AW_skip ?_ | unfold retQ); try simp only [push_cast, seval, *])
    | (apply AW_cond; (case hc => (simp only [push_cast, seval]; rfl)); all_goals (intro hc; first | (exfalso; simp only [push_cast, seval, *] at hc; done) | (exact absurd hc (by decide)) | ((try first | rw [Bool.not_true] at hc | rw [Bool.not_false] at hc); first | (with_reducible replace hc := tTT hc); clear hc | (with_reducible replace hc := tFF hc); clear hc | (have hp := hc; try simp only [decide_eq_true_eq, decide_eq_false_iff_not, bA, bB, bC, bD, bE, bF, bG, bH] at hp))))
    | (refine Kn.go hK ?_; clear hK K)
    | refine Kn.go (by assumption) ?_
    | (intro n hn; (try simp only [upd_none2, join_none_iff, ite_none, ne_eq] at hn); (try simp only [push_cast, seval, *]))
    | (intro hc)
    | fail)
      rename_i n9 h9
      have hM9 := (Loc.own _ _ _ _).old (unhid hox) h9
      have hG9 := (Loc.own _ _ _ _).old (unhid hoz) hM9
      have ax := (Loc.own _ _ _ _).new (unhid hox) h9 (.r 61 4 1 [[.c (.int .u64 num), .c (.int .i64 bg), .c (.bool sv), .l 2 (ac.map Ak.av)]])
      have az := (Loc.own _ _ _ _).new (unhid hoz) hM9 (.r 61 4 1 [[.c (.int .u64 num), .c (.int .i64 bg), .c (.bool sv), .l 2 (ac.map Ak.av)]])
      obtain ⟨M2, q1, q2⟩ := (Loc.own _ _ _ _).swap (Loc.own _ _ _ _) ax az
      refine does_app1 rfl rfl rfl rfl q1 (by simp only [upd_none2, push_cast, seval, *]) hE1 hS1 hB1 hZ1 rfl (by decide) (by simp only [List.length_map, maxLen]; omega) (by simp only [List.length_map]; omega) ?_
      intro z2 H2 hz2
      have z2cs := hz2.cs
      have z2one := hz2.one
      obtain ⟨M3, r1, r2⟩ := (Loc.own _ _ _ _).swap (Loc.own _ _ _ _) hz2 q2
      obtain ⟨H3, v1, M4, v2, v3⟩ := ((Loc.own _ _ _ _).comp (Loc.own _ _ _ _)).cut ⟨M3, r1, r2⟩ (K := G) (le_upd_new hG9)
      have v3' : OwnL M4 z2 25 1 (((F ++ [(⟨num, bg, sv, ac⟩ : Pd)]).map Pd.num).map iu) G := by rw [List.map_append, List.map_append]; exact v3
      replace v1 := Lib.hid v1
      replace v2 := Lib.hid v2
      replace v3' := Lib.hid v3'
      clear hz2 r1 r2 q1 q2 ax az v3 hox hoz zcs zone hM9 hG9 o1'
      (try simp only [push_cast, seval, *])
      repeat' (first
    | refine AW_seq_kn fun K hK => ?_
    | refine AW_block ?_
    | ((first
      | refine AW_region E0 ?_ | refine AW_ret ?_ | refine AW_exit ?_ | refine AW_skip ?_ | unfold retQ); try simp only [push_cast, seval, *])
    | (apply AW_cond; (case hc => (simp only [push_cast, seval]; rfl)); all_goals (intro hc; first | (exfalso; simp only [push_cast, seval, *] at hc; done) | (exact absurd hc (by decide)) | ((try first | rw [Bool.not_true] at hc | rw [Bool.not_false] at hc); first | (with_reducible replace hc := tTT hc); clear hc | (with_reducible replace hc := tFF hc); clear hc | (have hp := hc; try simp only [decide_eq_true_eq, decide_eq_false_iff_not, bA, bB, bC, bD, bE, bF, bG, bH] at hp))))
    | (refine Kn.go hK ?_; clear hK K)
    | refine Kn.go (by assumption) ?_
    | (intro n hn; (try simp only [upd_none2, join_none_iff, ite_none, ne_eq] at hn); (try simp only [push_cast, seval, *]))
    | (intro hc)
    | fail)
      exact ⟨(x, z2, H3), ⟨M4, unhid v2, unhid v3'⟩, by (first | trivial | (simp only [push_cast, seval, *]; done)), unhid v1⟩
    · rw [decide_eq_false hq] at hs1 hs2
      simp only [if_true, Bool.not_false, Bool.false_eq_true, if_false, List.append_nil] at hs1 hs2
      subst hs1
      subst hs2
      replace hox := Lib.hid hox
      replace hoz := Lib.hid hoz
      repeat' (first
    | refine AW_seq_kn fun K hK => ?_
    | refine AW_block ?_
    | ((first
      | refine AW_region E0 ?_ | refine AW_ret ?_ | refine AW_exit ?_ | refine AW_skip ?_ | unfold retQ); try simp only [push_cast, seval, *])
    | (apply AW_cond; (case hc => (simp only [push_cast, seval]; rfl)); all_goals (intro hc; first | (exfalso; simp only [push_cast, seval, *] at hc; done) | (exact absurd hc (by decide)) | ((try first | rw [Bool.not_true] at hc | rw [Bool.not_false] at hc); first | (with_reducible replace hc := tTT hc); clear hc | (with_reducible replace hc := tFF hc); clear hc | (have hp := hc; try simp only [decide_eq_true_eq, decide_eq_false_iff_not, bA, bB, bC, bD, bE, bF, bG, bH] at hp))))
    | (refine Kn.go hK ?_; clear hK K)
    | refine Kn.go (by assumption) ?_
    | (intro n hn; (try simp only [upd_none2, join_none_iff, ite_none, ne_eq] at hn); (try simp only [push_cast, seval, *]))
    | (intro hc)
    | fail)
      rename_i n9 h9
      have hM9 := (Loc.own _ _ _ _).old (unhid hox) h9
      have hG9 := (Loc.own _ _ _ _).old (unhid hoz) hM9
      have ax := (Loc.own _ _ _ _).new (unhid hox) h9 (.r 61 4 1 [[.c (.int .u64 num), .c (.int .i64 bg), .c (.bool sv), .l 2 (ac.map Ak.av)]])
      have az := (Loc.own _ _ _ _).new (unhid hoz) hM9 (.r 61 4 1 [[.c (.int .u64 num), .c (.int .i64 bg), .c (.bool sv), .l 2 (ac.map Ak.av)]])
      refine does_app1 rfl rfl rfl rfl ax (by simp only [upd_none2, push_cast, seval, *]) hE4 hS4 hB4 hZ4 rfl (by decide) (by simp only [List.length_map, maxLen]; omega) (by simp only [List.length_map]; omega) ?_
      intro x2 H2 hx2
      have x2cs := hx2.cs
      have x2one := hx2.one
      obtain ⟨H3, v1, M4, v2, v3⟩ := ((Loc.own _ _ _ _).comp (Loc.own _ _ _ _)).cut ⟨_, hx2, az⟩ (K := G) (le_upd_new hG9)
      have v2' : OwnL H3 x2 61 4 ((E ++ [(⟨num, bg, sv, ac⟩ : Pd)]).map Pd.av) M4 := by rw [List.map_append]; exact v2
      replace v1 := Lib.hid v1
      replace v3 := Lib.hid v3
      replace v2' := Lib.hid v2'
      clear hx2 ax az v2 hox hoz xcs xone hM9 hG9 o1'
      (try simp only [push_cast, seval, *])
      repeat' (first
    | refine AW_seq_kn fun K hK => ?_
    | refine AW_block ?_
    | ((first
      | refine AW_region E0 ?_ | refine AW_ret ?_ | refine AW_exit ?_ | refine AW_skip ?_ | unfold retQ); try simp only [push_cast, seval, *])
    | (apply AW_cond; (case hc => (simp only [push_cast, seval]; rfl)); all_goals (intro hc; first | (exfalso; simp only [push_cast, seval, *] at hc; done) | (exact absurd hc (by decide)) | ((try first | rw [Bool.not_true] at hc | rw [Bool.not_false] at hc); first | (with_reducible replace hc := tTT hc); clear hc | (with_reducible replace hc := tFF hc); clear hc | (have hp := hc; try simp only [decide_eq_true_eq, decide_eq_false_iff_not, bA, bB, bC, bD, bE, bF, bG, bH] at hp))))
    | (refine Kn.go hK ?_; clear hK K)
    | refine Kn.go (by assumption) ?_
    | (intro n hn; (try simp only [upd_none2, join_none_iff, ite_none, ne_eq] at hn); (try simp only [push_cast, seval, *]))
    | (intro hc)
    | fail)
      exact ⟨(x2, z, H3), ⟨M4, unhid v2', unhid v3⟩, by (first | trivial | (simp only [push_cast, seval, *]; done)), unhid v1⟩
  · rintro ⟨x, z, S⟩ ⟨M, hox, hoz⟩
    simp only [List.take_length] at hox hoz
    have s1 := hox.get (hoz.get g1)
    have s2 := hox.get (hoz.get g2)
    have zcs := hoz.cs
    have zone := hoz.one
    have xcs := hox.cs
    have xone := hox.one
    obtain ⟨X2, v1, ⟨M4, v2, v2'⟩, v3⟩ := ((Loc.own _ _ _ _).comp (Loc.own _ _ _ _)).cutx ⟨M, hox, hoz⟩ (unhid hleG)
    have v4 := v3 n1 (by rw [g1]; simp) (unhid e1)
    have v5 := v3 n2 (by rw [g2]; simp) (unhid e2)
    replace v1 := Lib.hid v1
    replace v2 := Lib.hid v2
    replace v2' := Lib.hid v2'
    replace v4 := Lib.hid v4
    replace v5 := Lib.hid v5
    clear hox hoz v3
    simp only [zcl] at s2
    generalize (l.filter LP).map Pd.num = gs at *
    generalize l.filter (fun p => !LP p) = E at *
    repeat' (first
    | refine AW_seq_kn fun K hK => ?_
    | refine AW_block ?_
    | ((first
      | refine AW_region E0 ?_ | refine AW_ret ?_ | refine AW_exit ?_ | refine AW_skip ?_ | unfold retQ); try simp only [push_cast, seval, *])
    | (apply AW_cond; (case hc => (simp only [push_cast, seval]; rfl)); all_goals (intro hc; first | (exfalso; simp only [push_cast, seval, *] at hc; done) | (exact absurd hc (by decide)) | ((try first | rw [Bool.not_true] at hc | rw [Bool.not_false] at hc); first | (with_reducible replace hc := tTT hc); clear hc | (with_reducible replace hc := tFF hc); clear hc | (have hp := hc; try simp only [decide_eq_true_eq, decide_eq_false_iff_not, bA, bB, bC, bD, bE, bF, bG, bH] at hp))))
    | (refine Kn.go hK ?_; clear hK K)
    | refine Kn.go (by assumption) ?_
    | (intro n hn; (try simp only [upd_none2, join_none_iff, ite_none, ne_eq] at hn); (try simp only [push_cast, seval, *]))
    | (intro hc)
    | fail)
    exact ⟨_, H, Weak.trans (Weak.less (H' := X2) (by repeat' (first | exact unhid v1 | refine le_skip ?_ (unhid v4) | refine le_skip ?_ (unhid v5)))) (own_cg (c := ⟨c0, c1, c2, c3, c4, E⟩) (unhid v2) (unhid v2')), rfl, rfl⟩
end Go.Proofs.Ytlbdpnlmdcajbaa
