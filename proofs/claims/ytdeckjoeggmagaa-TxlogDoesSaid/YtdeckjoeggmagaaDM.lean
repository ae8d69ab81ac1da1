/- Walk: a log that can be played in time. -/
import Derived.Test.YtdeckjoeggmagaaDE
import Derived.Test.YtdeckjoeggmagaaR
import Derived.Test.YtdeckjoeggmagaaS
namespace Go.Proofs.Ytdeckjoeggmagaa
open Go.RowKit
open Nat renaming reduceEqDiff → nA, reduceLT → nB, reduceLeDiff → nC, reduceAdd → nD, reduceMul → nE, reduceSub → nF, reduceBEq → nG
open Int renaming reduceToNat → iA, reduceLT → iB, reduceLE → iC, reduceEq → iD
open Bool renaming and_eq_true → bA, or_eq_true → bB, or_eq_false_iff → bC, and_eq_false_iff → bD, not_eq_true' → bE, not_eq_false' → bF, not_true → bG, not_false → bH
set_option linter.all false
set_option maxHeartbeats 4000000
attribute [local irreducible] AW Does ACall tE tS tB tZ
def dLDM0 : List En := [(1, false, []), (2, false, []), (3, false, []), (4, false, []), (5, false, []), (6, false, []), (7, false, []), (9, false, []), (10, true, []), (0, false, []), (8, false, [10, 13]), (11, false, [13]), (12, false, []), (13, false, []), (14, false, [])]
def dADM0 : List (List Nat) := [[], [], [1], [], [3], [3, 4], [3, 4, 5], [1, 2, 3, 4, 5, 6], [0, 1, 2, 3, 4, 5, 6, 7], [], [9], [0, 1, 2, 3, 4, 5, 6, 7, 8, 9, 10], [0, 1, 2, 3, 4, 5, 6, 7, 8, 9, 10, 11], [], [0, 1, 2, 3, 4, 5, 6, 7, 8, 9, 10, 11, 12, 13]]
attribute [push_cast] dLDM0
set_option maxRecDepth 5000

def shT (t : Tx) : Tx := { t with rs := t.rs.take 401 }
def shortL (l : Lg) : Lg := ⟨(l.txs.take 25).map shT, l.done.take 301, l.log.take 401⟩
theorem short16_p (l : Lg) (h1 : l.txs.length ≤ maxLen) (h2 : l.done.length ≤ maxLen) (h3 : l.log.length ≤ maxLen) (h4 : ∀ t ∈ l.txs, t.rs.length ≤ maxLen) : Pure Try.prog 25 [.g (Lg.av l)] (.g (Lg.av (shortL l))) := by
  intro H
  have hfl := few_p l.log h3
  have hfw := fun t ht => few_p t.rs (h4 t ht)
  unfold shortL
  obtain ⟨a, b, c⟩ := l
  simp only at h1 h2 h3 hfl hfw ⊢
  clear h4 h3
  unfold maxLen at h1 h2
  obtain ⟨mm, hmm, hml, hm3, hmt⟩ := minN 301 b.length
  have hbt := hmt b rfl
  have hmI : (mm : Int) ≤ b.length := by omega
  replace hmm : (if (301 : Int) < b.length then (301 : Int) else (b.length : Int)) = (mm : Int) := hmm
  clear hmt
  have hav : Lg.av ⟨a, b, c⟩ = [.l 5 (a.map Tx.av), .l 3 (b.map Nm.av), .l 3 (c.map Rec.av)] := rfl
  rw [hav]
  have hE22 := tE22
  have hS26 := tS26
  have hB26 := tB26
  have hZ26 := tZ26
  have hE44 := tE44
  have hS86 := tS86
  have hB86 := tB86
  have hZ86 := tZ86
  obtain ⟨cs, hcs⟩ : ∃ cs, cs = c.take 401 := ⟨_, rfl⟩
  obtain ⟨bs, hbs⟩ : ∃ bs, bs = b.take 301 := ⟨_, rfl⟩
  have hbv : (b.map Nm.av).take mm = bs.map Nm.av := by rw [hbs, hbt, List.map_take]
  have hbl : bs.length ≤ 301 := by rw [hbs, List.length_take]; omega
  rw [← hcs] at hfl
  obtain ⟨F, hF⟩ : ∃ F : Nat → List (List AV), F = fun k => (((a.take k).take 25).map shT).map Tx.av := ⟨_, rfl⟩
  have hF0 : F 0 = [] := by rw [hF]; rfl
  have hFl : ∀ k, (F k).length ≤ 25 := fun k => by rw [hF]; simp only [List.length_map, List.length_take]; omega
  have hF1 : ∀ (k : Nat) (x : Tx), a[k]? = some x → k ≤ 24 → F (k + 1) = F k ++ [Tx.av (shT x)] := fun k x hx hk => by
    have hkl := (List.getElem?_eq_some_iff.1 hx).1
    rw [hF]
    simp only
    rw [List.take_of_length_le (l := a.take (k + 1)) (by rw [List.length_take]; omega), List.take_of_length_le (l := a.take k) (by rw [List.length_take]; omega), take_snoc hx]
    simp
  have hF2 : ∀ (k : Nat) (x : Tx), a[k]? = some x → 24 < k → F (k + 1) = F k := fun k x hx hk => by
    rw [hF]
    simp only
    rw [List.take_take, List.take_take, Nat.min_eq_left (by omega), Nat.min_eq_left (by omega)]
  have hFn : F a.length = ((a.take 25).map shT).map Tx.av := by rw [hF]; simp only [List.take_length]
  replace hF1 := Lib.hid hF1
  replace hF2 := Lib.hid hF2
  replace hFl := Lib.hid hFl
  replace hF0 := Lib.hid hF0
  replace hFn := Lib.hid hFn
  replace hfw := Lib.hid hfw
  replace hcs := Lib.hid hcs
  replace hbs := Lib.hid hbs
  clear hF hav hbt
  refine ACall_of' Try.func25 rfl (Ent_of Try.func25 (by kernel_rfl) rfl) (by simp [Try.ntmps25]) ?_; simp only [Try.ntmps25, Try.results25]
  repeat' (first
    | refine AW_seq_kn fun K hK => ?_
    | refine AW_block ?_
    | ((first
      | refine AW_region_draw (id := 1) E0 (fun f => [].contains f) dLDM0 dADM0 mixed (by kernel_rfl) ?_
      | refine AW_region E0 ?_ | refine AW_ret ?_ | refine AW_exit ?_ | refine AW_skip ?_ | unfold retQ); try simp only [push_cast, seval, *])
    | (apply AW_cond; (case hc => (simp only [push_cast, seval]; rfl)); all_goals (intro hc; first | (exfalso; simp only [push_cast, seval, *] at hc; done) | (exact absurd hc (by decide)) | ((try first | rw [Bool.not_true] at hc | rw [Bool.not_false] at hc); first | (with_reducible replace hc := tTT hc); clear hc | (with_reducible replace hc := tFF hc); clear hc | (have hp := hc; try simp only [decide_eq_true_eq, decide_eq_false_iff_not, bA, bB, bC, bD, bE, bF, bG, bH] at hp))))
    | (refine Kn.go hK ?_; clear hK K)
    | refine Kn.go (by assumption) ?_
    | (intro n hn; (try simp only [upd_none2, join_none_iff, ite_none, ne_eq] at hn); (try simp only [push_cast, seval, *]))
    | (intro hc)
    | fail)
  rename_i n1 q1 n2 q2
  have e1 : H n1 = none := q1
  have e2 : H n2 = none := q2.2
  obtain ⟨G, hG⟩ : ∃ G : Heap, G = upd (upd H n1 (.r 47 3 1 [[.l 5 (a.map Tx.av), .l 3 (b.map Nm.av), .l 3 (c.map Rec.av)]])) n2 (.r 47 3 1 [zL]) := ⟨_, rfl⟩
  have g1 : G n1 = some (.r 47 3 1 [[.l 5 (a.map Tx.av), .l 3 (b.map Nm.av), .l 3 (c.map Rec.av)]]) := by rw [hG, upd_ne q2.1.2, upd_same]
  have g2 : G n2 = some (.r 47 3 1 [zL]) := by rw [hG, upd_same]
  have gn : G n = none := by rw [hG, upd_ne hn.1.1, upd_ne hn.2.1.1]; exact hn.2.2
  have hle : Heap.le H G := by rw [hG]; exact le_new2 e1 e2 q2.1.1
  have o1 := ne_old g1
  have o2 := ne_old g2
  rw [← hG]
  clear hG q1 q2 hn
  replace hle := Lib.hid hle
  refine Does.frozen (ty := 26) (does_appL (news := bs.map Nm.av) rfl rfl rfl (OwnL.fresh gn) hE22 hS26 hB26 hZ26 rfl (by decide) (by simp only [List.length_map, List.length_nil, maxLen]; omega) (by simp only [List.length_map, List.length_nil]; omega) (fun _ _ h' => h')) ?_
  rw [List.nil_append]
  clear gn
  (try simp only [push_cast, seval, *])
  repeat' (first
    | refine AW_seq_kn fun K hK => ?_
    | refine AW_block ?_
    | (refine does_call rfl rfl ?_; simp only [push_cast, seval, *]; refine ACall.monoP (hfl _) ?_; (try simp only [push_cast, seval, *]))
    | ((first
      | refine AW_region_draw (id := 1) E0 (fun f => [].contains f) dLDM0 dADM0 mixed (by kernel_rfl) ?_
      | refine AW_region E0 ?_ | refine AW_ret ?_ | refine AW_exit ?_ | refine AW_skip ?_ | unfold retQ); try simp only [push_cast, seval, *])
    | (apply AW_cond; (case hc => (simp only [push_cast, seval]; rfl)); all_goals (intro hc; first | (exfalso; simp only [push_cast, seval, *] at hc; done) | (exact absurd hc (by decide)) | ((try first | rw [Bool.not_true] at hc | rw [Bool.not_false] at hc); first | (with_reducible replace hc := tTT hc); clear hc | (with_reducible replace hc := tFF hc); clear hc | (have hp := hc; try simp only [decide_eq_true_eq, decide_eq_false_iff_not, bA, bB, bC, bD, bE, bF, bG, bH] at hp))))
    | (refine Kn.go hK ?_; clear hK K)
    | refine Kn.go (by assumption) ?_
    | (intro n hn; (try simp only [upd_none2, join_none_iff, ite_none, ne_eq] at hn); (try simp only [push_cast, seval, *]))
    | (intro hc)
    | fail)
  generalize n = n3 at *
  have gn3 : G n3 = none := hn
  have n32 : ¬ n3 = n2 := of_eq_false (o2 n3 hn).2
  have n23 : ¬ n2 = n3 := of_eq_false (o2 n3 hn).1
  clear o1 hn g1 hfl hbv
  refine AW_loopX (σ := AV × Heap) a.length (fun k s => OwnL s.2 s.1 86 5 (F k) (upd G n3 (.r 47 3 1 [[s.1, .l 3 (bs.map Nm.av), .l 3 (cs.map Rec.av)]]))) (fun k s => [(2, .p n2 3 0 0), (3, .p n3 3 0 0), (20, .l 5 (a.map Tx.av)), (21, ci a.length), (22, ci k)]) (fun _ s => s.2) (.c (.slice none 0 0), upd G n3 (.r 47 3 1 [[.c (.slice none 0 0), .l 3 (bs.map Nm.av), .l 3 (cs.map Rec.av)]])) (by rw [unhid hF0]; exact OwnL.nil _ _ _) ?_ ?_ ?_ ?_
  · (first | trivial | (simp only [push_cast, seval, *]; done))
  · exact Heap.le_refl _
  · rintro k ⟨y1, S⟩ hk ho
    simp only at ho ⊢
    have hx := List.getElem?_eq_getElem (l := a) hk; generalize a[k] = x at hx; have hxm := List.mem_of_getElem? hx; have hkl : (k : Int) < a.length := (by omega); have hkw : IntKind.i64.wrap ((k : Int) + 1) = (k : Int) + 1 := wrap_i64 (by omega) (by omega)
    have t1 := unhid hF1 k x hx
    have t2 := unhid hF2 k x hx
    have hlk := unhid hFl k
    have hw := unhid hfw x hxm
    have g3 := ho.get (upd_same _ n3 _)
    have o3 := ne_old g3
    have c1 := ho.cs
    have w1 := ho.one
    unfold shT at t1
    generalize F (k + 1) = F1 at *
    generalize F k = F0 at *
    obtain ⟨⟨x1, x2, x3⟩, xst, xrs⟩ := x
    have hxv : ∀ r, Tx.av ⟨⟨x1, x2, x3⟩, xst, r⟩ = [.c (.int .i64 x1), .c (.int .i64 x2), .c (.int .i64 x3), .c (.int .i64 xst), .l 3 (r.map Rec.av)] := fun _ => rfl
    simp only at t1 t2 hw
    rw [hxv] at t1
    generalize xrs.take 401 = xr at *
    clear hxm
    by_cases h24 : k ≤ 24
    · have h24I : (k : Int) ≤ 24 := by omega
      have ht := t1 h24
      clear t1 t2 h24
      replace ht := Lib.hid ht
      replace ho := Lib.hid ho
      repeat' (first
    | refine AW_seq_kn fun K hK => ?_
    | refine AW_block ?_
    | (refine does_call rfl rfl ?_; simp only [push_cast, seval, *]; refine ACall.monoP (hw _) ?_; (try simp only [push_cast, seval, *]))
    | ((first
      | refine AW_region_draw (id := 1) E0 (fun f => [].contains f) dLDM0 dADM0 mixed (by kernel_rfl) ?_
      | refine AW_region E0 ?_ | refine AW_ret ?_ | refine AW_exit ?_ | refine AW_skip ?_ | unfold retQ); try simp only [push_cast, seval, *])
    | (apply AW_cond; (case hc => (simp only [push_cast, seval]; rfl)); all_goals (intro hc; first | (exfalso; simp only [push_cast, seval, *] at hc; done) | (exact absurd hc (by decide)) | ((try first | rw [Bool.not_true] at hc | rw [Bool.not_false] at hc); first | (with_reducible replace hc := tTT hc); clear hc | (with_reducible replace hc := tFF hc); clear hc | (have hp := hc; try simp only [decide_eq_true_eq, decide_eq_false_iff_not, bA, bB, bC, bD, bE, bF, bG, bH] at hp))))
    | (refine Kn.go hK ?_; clear hK K)
    | refine Kn.go (by assumption) ?_
    | (intro n hn; (try simp only [upd_none2, join_none_iff, ite_none, ne_eq] at hn); (try simp only [push_cast, seval, *]))
    | (intro hc)
    | fail)
      rename_i n5 q5
      have n53 : ¬ n5 = n3 := of_eq_false (o3 n5 q5).2
      have n35 : ¬ n3 = n5 := of_eq_false (o3 n5 q5).1
      have gA5 : G n5 = none := by have := (Loc.own _ _ _ _).old (unhid ho) q5; rwa [upd_ne n53] at this
      obtain ⟨c5, hc5⟩ : ∃ c5 : Blk, c5 = .r 86 5 1 [[.c (.int .i64 x1), .c (.int .i64 x2), .c (.int .i64 x3), .c (.int .i64 xst), .l 3 (xr.map Rec.av)]] := ⟨_, rfl⟩
      have h5 := (Loc.own _ _ _ _).new (unhid ho) q5 c5
      rw [hc5] at h5
      have hSn : ∀ b, upd S n5 b n = none := fun b => by rw [upd_ne hn.1.1]; exact hn.2
      refine does_app1 rfl rfl rfl rfl h5 (hSn _) hE44 hS86 hB86 hZ86 rfl (by decide) (by simp only [maxLen]; omega) (by omega) ?_
      intro y1' S6 hy
      rw [← unhid ht] at hy
      rw [← hc5] at hy
      have r3 := hy.get (show _ = some (.r 47 3 1 [[y1, .l 3 (bs.map Nm.av), .l 3 (cs.map Rec.av)]]) by rw [upd_ne n35, upd_same])
      have c1' := hy.cs
      have w1' := hy.one
      have hfin := (Loc.own _ _ _ _).turn hy (show _ = some (.r 47 3 1 [[y1, .l 3 (bs.map Nm.av), .l 3 (cs.map Rec.av)]]) by rw [upd_ne n35, upd_same]) (.r 47 3 1 [[y1', .l 3 (bs.map Nm.av), .l 3 (cs.map Rec.av)]])
      obtain ⟨S7, u1, u2⟩ := (Loc.own _ _ _ _).cut hfin (le_turnB (G := G) (n := n3) (m := n5) (a := .r 47 3 1 [[y1, .l 3 (bs.map Nm.av), .l 3 (cs.map Rec.av)]]) (b := c5) (c := .r 47 3 1 [[y1', .l 3 (bs.map Nm.av), .l 3 (cs.map Rec.av)]]) n53 gA5)
      replace u1 := Lib.hid u1
      replace u2 := Lib.hid u2
      clear hfin hy h5 hSn ho o3 g3 c1 w1 hc5
      (try simp only [push_cast, seval, *])
      repeat' (first
    | refine AW_seq_kn fun K hK => ?_
    | refine AW_block ?_
    | ((first
      | refine AW_region_draw (id := 1) E0 (fun f => [].contains f) dLDM0 dADM0 mixed (by kernel_rfl) ?_
      | refine AW_region E0 ?_ | refine AW_ret ?_ | refine AW_exit ?_ | refine AW_skip ?_ | unfold retQ); try simp only [push_cast, seval, *])
    | (apply AW_cond; (case hc => (simp only [push_cast, seval]; rfl)); all_goals (intro hc; first | (exfalso; simp only [push_cast, seval, *] at hc; done) | (exact absurd hc (by decide)) | ((try first | rw [Bool.not_true] at hc | rw [Bool.not_false] at hc); first | (with_reducible replace hc := tTT hc); clear hc | (with_reducible replace hc := tFF hc); clear hc | (have hp := hc; try simp only [decide_eq_true_eq, decide_eq_false_iff_not, bA, bB, bC, bD, bE, bF, bG, bH] at hp))))
    | (refine Kn.go hK ?_; clear hK K)
    | refine Kn.go (by assumption) ?_
    | (intro n hn; (try simp only [upd_none2, join_none_iff, ite_none, ne_eq] at hn); (try simp only [push_cast, seval, *]))
    | (intro hc)
    | fail)
      exact ⟨(y1', S7), unhid u2, by (first | trivial | (simp only [push_cast, seval, *]; done)), unhid u1⟩
    · have h24I : ¬ (k : Int) ≤ 24 := by omega
      have ht := t2 (by omega)
      subst ht
      clear t1 t2 h24 hw
      replace ho := Lib.hid ho
      repeat' (first
    | refine AW_seq_kn fun K hK => ?_
    | refine AW_block ?_
    | ((first
      | refine AW_region_draw (id := 1) E0 (fun f => [].contains f) dLDM0 dADM0 mixed (by kernel_rfl) ?_
      | refine AW_region E0 ?_ | refine AW_ret ?_ | refine AW_exit ?_ | refine AW_skip ?_ | unfold retQ); try simp only [push_cast, seval, *])
    | (apply AW_cond; (case hc => (simp only [push_cast, seval]; rfl)); all_goals (intro hc; first | (exfalso; simp only [push_cast, seval, *] at hc; done) | (exact absurd hc (by decide)) | ((try first | rw [Bool.not_true] at hc | rw [Bool.not_false] at hc); first | (with_reducible replace hc := tTT hc); clear hc | (with_reducible replace hc := tFF hc); clear hc | (have hp := hc; try simp only [decide_eq_true_eq, decide_eq_false_iff_not, bA, bB, bC, bD, bE, bF, bG, bH] at hp))))
    | (refine Kn.go hK ?_; clear hK K)
    | refine Kn.go (by assumption) ?_
    | (intro n hn; (try simp only [upd_none2, join_none_iff, ite_none, ne_eq] at hn); (try simp only [push_cast, seval, *]))
    | (intro hc)
    | fail)
      exact ⟨(y1, S), unhid ho, by (first | trivial | (simp only [push_cast, seval, *]; done)), by first | trivial | (repeat' (first | exact Heap.le_refl _ | refine hle_upd2 ?_ _ _ | (refine Heap.le_new ?_ ?_; rotate_left 1; focus (first | assumption | (simp only [upd_none2, upd_get, ne_eq, push_cast, seval, *]; done) | (simp [upd_get, *]; done)))))⟩
  · rintro ⟨y1, S⟩ ho
    simp only at ho
    rw [unhid hFn] at ho
    have g3 := ho.get (upd_same _ n3 _)
    have k2 := ho.get (show _ = some (.r 47 3 1 [zL]) by rw [upd_ne n23]; exact g2)
    have c1 := ho.cs
    have w1 := ho.one
    obtain ⟨S2, v1, v2, v3⟩ := (Loc.own _ _ _ _).cutx ho (Heap.le_trans (unhid hle) (le_upd_new gn3))
    have v4 := v3 n2 (by rw [upd_ne n23, g2]; simp) e2
    replace v1 := Lib.hid v1
    replace v2 := Lib.hid v2
    replace v4 := Lib.hid v4
    clear ho v3
    repeat' (first
    | refine AW_seq_kn fun K hK => ?_
    | refine AW_block ?_
    | ((first
      | refine AW_region_draw (id := 1) E0 (fun f => [].contains f) dLDM0 dADM0 mixed (by kernel_rfl) ?_
      | refine AW_region E0 ?_ | refine AW_ret ?_ | refine AW_exit ?_ | refine AW_skip ?_ | unfold retQ); try simp only [push_cast, seval, *])
    | (apply AW_cond; (case hc => (simp only [push_cast, seval]; rfl)); all_goals (intro hc; first | (exfalso; simp only [push_cast, seval, *] at hc; done) | (exact absurd hc (by decide)) | ((try first | rw [Bool.not_true] at hc | rw [Bool.not_false] at hc); first | (with_reducible replace hc := tTT hc); clear hc | (with_reducible replace hc := tFF hc); clear hc | (have hp := hc; try simp only [decide_eq_true_eq, decide_eq_false_iff_not, bA, bB, bC, bD, bE, bF, bG, bH] at hp))))
    | (refine Kn.go hK ?_; clear hK K)
    | refine Kn.go (by assumption) ?_
    | (intro n hn; (try simp only [upd_none2, join_none_iff, ite_none, ne_eq] at hn); (try simp only [push_cast, seval, *]))
    | (intro hc)
    | fail)
    refine ⟨_, H, Weak.trans (Weak.less (H' := S2) (le_skip (unhid v1) (unhid v4))) ((OwnL.wp (unhid v2)).weak fun F F' hF hi => Imp.g (Imps.cons hi.1 (fun _ => rfl) (Imps.refl hF _))), ?_, rfl⟩
    rw [unhid hbs, unhid hcs]
end Go.Proofs.Ytdeckjoeggmagaa
