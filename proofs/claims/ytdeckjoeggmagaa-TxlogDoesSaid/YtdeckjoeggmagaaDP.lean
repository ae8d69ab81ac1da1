/- Walks: what the document says of an op. -/
import Derived.Test.YtdeckjoeggmagaaDC
import Derived.Test.YtdeckjoeggmagaaDH
import Derived.Test.YtdeckjoeggmagaaDI
import Derived.Test.YtdeckjoeggmagaaDL
import Derived.Test.YtdeckjoeggmagaaU
namespace Go.Proofs.Ytdeckjoeggmagaa
open Go.RowKit
open Nat renaming reduceEqDiff → nA, reduceLT → nB, reduceLeDiff → nC, reduceAdd → nD, reduceMul → nE, reduceSub → nF, reduceBEq → nG
open Int renaming reduceToNat → iA, reduceLT → iB, reduceLE → iC, reduceEq → iD
open Bool renaming and_eq_true → bA, or_eq_true → bB, or_eq_false_iff → bC, and_eq_false_iff → bD, not_eq_true' → bE, not_eq_false' → bF, not_true → bG, not_false → bH
set_option linter.all false
set_option maxHeartbeats 4000000
attribute [local irreducible] AW Does ACall tE tS tB tZ
def dLDP0 : List En := [(0, true, []), (1, false, []), (2, true, []), (3, false, []), (4, false, []), (5, false, [0, 2]), (6, false, []), (7, false, []), (8, false, []), (9, false, []), (10, false, []), (11, false, [])]
def dADP0 : List (List Nat) := [[], [], [1], [], [3], [3, 4], [0, 1, 2, 3, 4, 5], [0, 1, 2, 3, 4, 5, 6], [0, 1, 2, 3, 4, 5, 6, 7], [0, 1, 2, 3, 4, 5, 6, 7], [0, 1, 2, 3, 4, 5, 6, 7, 8], [0, 1, 2, 3, 4, 5, 6, 7, 8, 9, 10]]
attribute [push_cast] dLDP0
def dLDP1 : List En := [(0, true, []), (1, false, []), (2, false, []), (3, false, [0]), (4, false, []), (5, false, []), (6, false, []), (7, false, []), (8, false, []), (9, false, [])]
def dADP1 : List (List Nat) := [[], [], [1], [1, 2], [0, 1, 2, 3], [0, 1, 2, 3, 4], [0, 1, 2, 3, 4, 5], [0, 1, 2, 3, 4, 5], [0, 1, 2, 3, 4, 5, 6], [0, 1, 2, 3, 4, 5, 6, 7, 8]]
attribute [push_cast] dLDP1
set_option maxRecDepth 5000

def namedS (o : Op16) : Bool := if kdS o < 6 then nmOk o.nm else (o.names.take 30).all nmOk
theorem named_p (o : Op16) (ho : o.names.length ≤ maxLen ∧ o.recs.length ≤ maxLen) : Pure Try.prog 65 [.g (Op16.av o)] (.c (.bool (namedS o))) := by
  intro H
  have hn1 := RightName_p o.nm
  have hns := names_p o.names ho.1
  have hl30 : (o.names.take 30).length ≤ 30 := by rw [List.length_take]; omega
  unfold namedS kdS
  obtain ⟨kd, ⟨m1, m2, m3⟩, nl, rl⟩ := o
  have hav : Op16.av ⟨kd, ⟨m1, m2, m3⟩, nl, rl⟩ = [.c (.int .i64 kd), .c (.int .i64 m1), .c (.int .i64 m2), .c (.int .i64 m3), .l 3 (nl.map Nm.av), .l 3 (rl.map Rec.av)] := rfl
  have hnv : Nm.av ⟨m1, m2, m3⟩ = [.c (.int .i64 m1), .c (.int .i64 m2), .c (.int .i64 m3)] := rfl
  simp only at hns hl30 hn1 ⊢
  simp only [hnv, hav] at hn1 ⊢
  generalize nl.take 30 = l at *
  obtain ⟨U, hU⟩ : ∃ U, IntKind.u64.wrap kd = U := ⟨_, rfl⟩
  rw [hU]
  clear ho hav hnv
  by_cases h6 : U.tmod 9 < 6
  · rw [if_pos h6]
    clear hns
    refine ACall_of' Try.func65 rfl (Ent_of Try.func65 (by kernel_rfl) rfl) (by simp [Try.ntmps65]) ?_; simp only [Try.ntmps65, Try.results65]
    repeat' (first
    | refine AW_seq_kn fun K hK => ?_
    | refine AW_block ?_
    | (refine does_call rfl rfl ?_; simp only [push_cast, seval, *]; refine ACall.monoP (hn1 _) ?_; (try simp only [push_cast, seval, *]))
    | ((first
      | refine AW_region E0 ?_ | refine AW_ret ?_ | refine AW_exit ?_ | refine AW_skip ?_ | unfold retQ); try simp only [push_cast, seval, *])
    | (apply AW_cond; (case hc => (simp only [push_cast, seval]; rfl)); all_goals (intro hc; first | (exfalso; simp only [push_cast, seval, *] at hc; done) | (exact absurd hc (by decide)) | ((try first | rw [Bool.not_true] at hc | rw [Bool.not_false] at hc); first | (with_reducible replace hc := tTT hc); clear hc | (with_reducible replace hc := tFF hc); clear hc | (have hp := hc; try simp only [decide_eq_true_eq, decide_eq_false_iff_not, bA, bB, bC, bD, bE, bF, bG, bH] at hp))))
    | (refine Kn.go hK ?_; clear hK K)
    | refine Kn.go (by assumption) ?_
    | (intro n hn; (try simp only [upd_none2, join_none_iff, ite_none, ne_eq] at hn); (try simp only [push_cast, seval, *]))
    | (intro hc)
    | fail)
    exact ⟨_, _, Weak.less (by (repeat' (first | exact Heap.le_refl _ | refine hle_upd2 ?_ _ _ | (refine Heap.le_new ?_ ?_; rotate_left 1; focus (first | assumption | (simp only [upd_none2, upd_get, ne_eq, push_cast, seval, *]; done) | (simp [upd_get, *]; done)))))), rfl, rfl⟩
  rw [if_neg h6]
  obtain ⟨S, hS⟩ : ∃ S, S = l.all nmOk := ⟨_, rfl⟩
  rw [← hS]
  replace hS := Lib.hid hS
  clear hn1
  refine ACall_of' Try.func65 rfl (Ent_of Try.func65 (by kernel_rfl) rfl) (by simp [Try.ntmps65]) ?_; simp only [Try.ntmps65, Try.results65]
  repeat' (first
    | refine AW_seq_kn fun K hK => ?_
    | refine AW_block ?_
    | (refine does_call rfl rfl ?_; simp only [push_cast, seval, *]; refine ACall.monoP (hns _) ?_; (try simp only [push_cast, seval, *]))
    | ((first
      | refine AW_region E0 ?_ | refine AW_ret ?_ | refine AW_exit ?_ | refine AW_skip ?_ | unfold retQ); try simp only [push_cast, seval, *])
    | (apply AW_cond; (case hc => (simp only [push_cast, seval]; rfl)); all_goals (intro hc; first | (exfalso; simp only [push_cast, seval, *] at hc; done) | (exact absurd hc (by decide)) | ((try first | rw [Bool.not_true] at hc | rw [Bool.not_false] at hc); first | (with_reducible replace hc := tTT hc); clear hc | (with_reducible replace hc := tFF hc); clear hc | (have hp := hc; try simp only [decide_eq_true_eq, decide_eq_false_iff_not, bA, bB, bC, bD, bE, bF, bG, bH] at hp))))
    | (refine Kn.go hK ?_; clear hK K)
    | refine Kn.go (by assumption) ?_
    | (intro n hn; (try simp only [upd_none2, join_none_iff, ite_none, ne_eq] at hn); (try simp only [push_cast, seval, *]))
    | (intro hc)
    | fail)
  refine AW_loopN l.length (fun k => S = (l.drop k).all nmOk) (fun k => [(15, .l 3 (l.map Nm.av)), (16, ci l.length), (17, ci k)]) (fun _ => H) (by rw [List.drop_zero]; exact unhid hS) ?_ (by first | exact Heap.le_refl _ | exact le_upd_new hn | (repeat' (first | exact Heap.le_refl _ | refine hle_upd2 ?_ _ _ | (refine Heap.le_new ?_ ?_; rotate_left 1; focus (first | assumption | (simp only [upd_none2, upd_get, ne_eq, push_cast, seval, *]; done) | (simp [upd_get, *]; done)))))) ?_ ?_
  · (first | trivial | (simp only [push_cast, seval, *]; done))
  · intro k hk hinv
    have hx := List.getElem?_eq_getElem (l := l) hk; generalize l[k] = x at hx; have hxm := List.mem_of_getElem? hx; have hkl : (k : Int) < l.length := (by omega); have hkw : IntKind.i64.wrap ((k : Int) + 1) = (k : Int) + 1 := wrap_i64 (by omega) (by omega)
    rw [drop_get hx, List.all_cons] at hinv
    have hn1 := RightName_p x
    obtain ⟨x1, x2, x3⟩ := x
    have hxn : Nm.av ⟨x1, x2, x3⟩ = [.c (.int .i64 x1), .c (.int .i64 x2), .c (.int .i64 x3)] := rfl
    simp only [hxn] at hn1
    clear hxm hns
    cases hB : nmOk ⟨x1, x2, x3⟩
    · rw [hB] at hinv hn1
      have h0 : S = false := by simpa using hinv
      subst h0
      clear hS hinv hB
      repeat' (first
    | refine AW_seq_kn fun K hK => ?_
    | refine AW_block ?_
    | (refine does_call rfl rfl ?_; simp only [push_cast, seval, *]; refine ACall.monoP (hn1 _) ?_; (try simp only [push_cast, seval, *]))
    | ((first
      | refine AW_region E0 ?_ | refine AW_ret ?_ | refine AW_exit ?_ | refine AW_skip ?_ | unfold retQ); try simp only [push_cast, seval, *])
    | (apply AW_cond; (case hc => (simp only [push_cast, seval]; rfl)); all_goals (intro hc; first | (exfalso; simp only [push_cast, seval, *] at hc; done) | (exact absurd hc (by decide)) | ((try first | rw [Bool.not_true] at hc | rw [Bool.not_false] at hc); first | (with_reducible replace hc := tTT hc); clear hc | (with_reducible replace hc := tFF hc); clear hc | (have hp := hc; try simp only [decide_eq_true_eq, decide_eq_false_iff_not, bA, bB, bC, bD, bE, bF, bG, bH] at hp))))
    | (refine Kn.go hK ?_; clear hK K)
    | refine Kn.go (by assumption) ?_
    | (intro n hn; (try simp only [upd_none2, join_none_iff, ite_none, ne_eq] at hn); (try simp only [push_cast, seval, *]))
    | (intro hc)
    | fail)
      exact ⟨_, _, Weak.less (by (repeat' (first | exact Heap.le_refl _ | refine hle_upd2 ?_ _ _ | (refine Heap.le_new ?_ ?_; rotate_left 1; focus (first | assumption | (simp only [upd_none2, upd_get, ne_eq, push_cast, seval, *]; done) | (simp [upd_get, *]; done)))))), rfl, rfl⟩
    · rw [hB, Bool.true_and] at hinv
      rw [hB] at hn1
      clear hB
      replace hinv := Lib.hid hinv
      repeat' (first
    | refine AW_seq_kn fun K hK => ?_
    | refine AW_block ?_
    | (refine does_call rfl rfl ?_; simp only [push_cast, seval, *]; refine ACall.monoP (hn1 _) ?_; (try simp only [push_cast, seval, *]))
    | ((first
      | refine AW_region E0 ?_ | refine AW_ret ?_ | refine AW_exit ?_ | refine AW_skip ?_ | unfold retQ); try simp only [push_cast, seval, *])
    | (apply AW_cond; (case hc => (simp only [push_cast, seval]; rfl)); all_goals (intro hc; first | (exfalso; simp only [push_cast, seval, *] at hc; done) | (exact absurd hc (by decide)) | ((try first | rw [Bool.not_true] at hc | rw [Bool.not_false] at hc); first | (with_reducible replace hc := tTT hc); clear hc | (with_reducible replace hc := tFF hc); clear hc | (have hp := hc; try simp only [decide_eq_true_eq, decide_eq_false_iff_not, bA, bB, bC, bD, bE, bF, bG, bH] at hp))))
    | (refine Kn.go hK ?_; clear hK K)
    | refine Kn.go (by assumption) ?_
    | (intro n hn; (try simp only [upd_none2, join_none_iff, ite_none, ne_eq] at hn); (try simp only [push_cast, seval, *]))
    | (intro hc)
    | fail)
      exact ⟨unhid hinv, by (first | trivial | (simp only [push_cast, seval, *]; done)), by first | trivial | (repeat' (first | exact Heap.le_refl _ | refine hle_upd2 ?_ _ _ | (refine Heap.le_new ?_ ?_; rotate_left 1; focus (first | assumption | (simp only [upd_none2, upd_get, ne_eq, push_cast, seval, *]; done) | (simp [upd_get, *]; done)))))⟩
  · intro hinv
    rw [List.drop_length] at hinv
    have h0 : S = true := hinv
    subst h0
    clear hinv hS
    repeat' (first
    | refine AW_seq_kn fun K hK => ?_
    | refine AW_block ?_
    | ((first
      | refine AW_region E0 ?_ | refine AW_ret ?_ | refine AW_exit ?_ | refine AW_skip ?_ | unfold retQ); try simp only [push_cast, seval, *])
    | (apply AW_cond; (case hc => (simp only [push_cast, seval]; rfl)); all_goals (intro hc; first | (exfalso; simp only [push_cast, seval, *] at hc; done) | (exact absurd hc (by decide)) | ((try first | rw [Bool.not_true] at hc | rw [Bool.not_false] at hc); first | (with_reducible replace hc := tTT hc); clear hc | (with_reducible replace hc := tFF hc); clear hc | (have hp := hc; try simp only [decide_eq_true_eq, decide_eq_false_iff_not, bA, bB, bC, bD, bE, bF, bG, bH] at hp))))
    | (refine Kn.go hK ?_; clear hK K)
    | refine Kn.go (by assumption) ?_
    | (intro n hn; (try simp only [upd_none2, join_none_iff, ite_none, ne_eq] at hn); (try simp only [push_cast, seval, *]))
    | (intro hc)
    | fail)
    exact ⟨_, _, Weak.less (by (repeat' (first | exact Heap.le_refl _ | refine hle_upd2 ?_ _ _ | (refine Heap.le_new ?_ ?_; rotate_left 1; focus (first | assumption | (simp only [upd_none2, upd_get, ne_eq, push_cast, seval, *]; done) | (simp [upd_get, *]; done)))))), rfl, rfl⟩
theorem wResT {l l' : Lg} {ns : List Nm} {e : Int} (h1 : lgOk l = true) (h2 : ns.all nmOk = true) : wRes l ns e l' = (if e = 0 then l' else zeroL, e) := by
  rw [wRes_ok h1 h2]
  by_cases h : e = 0
  · rw [if_pos h, if_pos h, h]
  · rw [if_neg h, if_neg h]
theorem named_one {o : Op16} (h : namedS o = true) (hk : kdS o < 6) : [o.nm].all nmOk = true := by
  unfold namedS at h; rw [if_pos hk] at h; simpa using h
theorem named_all {o : Op16} (h : namedS o = true) (hk : ¬ kdS o < 6) : (o.names.take 30).all nmOk = true := by
  unfold namedS at h; rwa [if_neg hk] at h
theorem runR_o (l : Lg) (o : Op16) (hok : lgOk l = true) (hno : namedS o = true) (hk : kdS o < 2) : runR l o = (if openE l o.nm = 0 then openL l o.nm else zeroL, 0, openE l o.nm) := by
  unfold runR openR; rw [if_pos hk, wResT hok (named_one hno (by omega))]
theorem runR_w (l : Lg) (o : Op16) (hok : lgOk l = true) (hno : namedS o = true) (hk : 2 ≤ kdS o ∧ kdS o < 4) : runR l o = (if writeE l o.nm (o.recs.take 401) = 0 then writeL l o.nm (o.recs.take 401) else zeroL, 0, writeE l o.nm (o.recs.take 401)) := by
  unfold runR writeR; rw [if_neg (by omega), if_pos hk.2, wResT hok (named_one hno (by omega))]
theorem runR_r (l : Lg) (o : Op16) (hok : lgOk l = true) (hno : namedS o = true) (hk : 4 ≤ kdS o ∧ kdS o < 6) : runR l o = (if readyE l o.nm = 0 then readyL l o.nm else zeroL, 0, readyE l o.nm) := by
  unfold runR readyR; rw [if_neg (by omega), if_neg (by omega), if_pos hk.2, wResT hok (named_one hno (by omega))]
theorem runR_c (l : Lg) (o : Op16) (hok : lgOk l = true) (hno : namedS o = true) (hk : 6 ≤ kdS o ∧ kdS o < 8) : runR l o = (if commitE l (o.names.take 30) = 0 then commitL l (o.names.take 30) else zeroL, 0, commitE l (o.names.take 30)) := by
  unfold runR commitR; rw [if_neg (by omega), if_neg (by omega), if_neg (by omega), if_pos hk.2, wResT hok (named_all hno (by omega))]
theorem runR_a (l : Lg) (o : Op16) (hok : lgOk l = true) (hno : namedS o = true) (hk : 8 ≤ kdS o) : runR l o = (abortL l (o.names.take 30), ((l.txs.length - (abortL l (o.names.take 30)).txs.length : Nat) : Int), 0) := by
  unfold runR abortR; rw [if_neg (by omega), if_neg (by omega), if_neg (by omega), if_neg (by omega), wResT hok (named_all hno (by omega)), if_pos rfl, if_pos ⟨hok, named_all hno (by omega)⟩]
theorem runR_no (l : Lg) (o : Op16) (hok : lgOk l = false) : runR l o = (zeroL, 0, 260) := by
  have hw : ∀ ns e l', wRes l ns e l' = (zeroL, 260) := fun ns e l' => by unfold wRes; rw [if_pos hok]
  unfold runR openR writeR readyR commitR abortR
  simp only [hw, hok, Bool.false_eq_true, false_and, if_false]
  repeat' split
  all_goals rfl
theorem runR_nn (l : Lg) (o : Op16) (hok : lgOk l = true) (hno : namedS o = false) : runR l o = (zeroL, 0, 2) := by
  have hw : ∀ ns e l', ns.all nmOk = false → wRes l ns e l' = (zeroL, 2) := fun ns e l' h => by unfold wRes; rw [if_neg (by rw [hok]; decide), if_pos h]
  have h1 : kdS o < 6 → [o.nm].all nmOk = false := fun hk => by unfold namedS at hno; rw [if_pos hk] at hno; simpa using hno
  have h2 : ¬ kdS o < 6 → (o.names.take 30).all nmOk = false := fun hk => by unfold namedS at hno; rwa [if_neg hk] at hno
  unfold runR openR writeR readyR commitR abortR
  by_cases c1 : kdS o < 2
  · rw [if_pos c1, hw _ _ _ (h1 (by omega))]
  rw [if_neg c1]
  by_cases c2 : kdS o < 4
  · rw [if_pos c2, hw _ _ _ (h1 (by omega))]
  rw [if_neg c2]
  by_cases c3 : kdS o < 6
  · rw [if_pos c3, hw _ _ _ (h1 c3)]
  rw [if_neg c3]
  by_cases c4 : kdS o < 8
  · rw [if_pos c4, hw _ _ _ (h2 c3)]
  rw [if_neg c4, hw _ _ _ (h2 c3), h2 c3]
  simp
theorem abortL_le (l : Lg) (ns : List Nm) : (abortL l ns).txs.length ≤ l.txs.length := List.length_filter_le _ _
theorem wants_zero (H : Heap) (e : Int) : Weak (.t [.g zL, .c (.int .i64 0), .c (.int .i64 e)]) H (.t [.g zeroL.av, .c (.int .i64 0), .c (.int .i64 e)]) H := OwnG.weak (OwnG_nil H) [.int .i64 0, .int .i64 e]
theorem wants_o (o : Op16) (ho : o.names.length ≤ maxLen ∧ o.recs.length ≤ maxLen) (l : Lg) (hok : lgOk l = true) (hno : namedS o = true) (hk : kdS o = 0 ∨ kdS o = 1) : Pure Try.prog 27 [.g (Op16.av o), .g (Lg.av l)] (.t [.g (runR l o).1.av, .c (.int .i64 (runR l o).2.1), .c (.int .i64 (runR l o).2.2)]) := by
  intro H
  have hri := Right_p l (fits_of hok)
  rw [hok] at hri
  have hnd := named_p o ho
  rw [hno] at hnd
  have hx := refOpen_p l hok o.nm
  have hfw := few_p o.recs ho.2
  have hnm := names_p o.names ho.1
  rw [runR_o l o hok hno (by omega)]
  simp only
  generalize (if openE l o.nm = 0 then openL l o.nm else zeroL) = N at *
  generalize openE l o.nm = E at *
  unfold kdS at hk
  obtain ⟨kd, ⟨nms, nma, nmn⟩, nl, rl⟩ := o
  have hav : Op16.av ⟨kd, ⟨nms, nma, nmn⟩, nl, rl⟩ = [.c (.int .i64 kd), .c (.int .i64 nms), .c (.int .i64 nma), .c (.int .i64 nmn), .l 3 (nl.map Nm.av), .l 3 (rl.map Rec.av)] := rfl
  have hnv : Nm.av ⟨nms, nma, nmn⟩ = [.c (.int .i64 nms), .c (.int .i64 nma), .c (.int .i64 nmn)] := rfl
  obtain ⟨a, b, c⟩ := l
  obtain ⟨a', b', c'⟩ := N
  have hlv : ∀ a b c, Lg.av ⟨a, b, c⟩ = [.l 5 (a.map Tx.av), .l 3 (b.map Nm.av), .l 3 (c.map Rec.av)] := fun _ _ _ => rfl
  simp only at hk hx hfw hnm
  try simp only [hnv] at hx
  simp only [hav, hlv] at hri hnd hx ⊢
  generalize hU : IntKind.u64.wrap kd = U at hk
  generalize rl.take 401 = rs at *
  generalize nl.take 30 = ns at *
  clear ho hok hno hav hnv hlv
  rcases hk with hk | hk
  all_goals
    refine ACall_of' Try.func27 rfl (Ent_of Try.func27 (by kernel_rfl) rfl) (by simp [Try.ntmps27]) ?_; simp only [Try.ntmps27, Try.results27]
    repeat' (first
    | refine AW_seq_kn fun K hK => ?_
    | refine AW_block ?_
    | (refine does_call rfl rfl ?_; simp only [push_cast, seval, *]; refine ACall.monoP (hri _) ?_; (try simp only [push_cast, seval, *]))
    | (refine does_call rfl rfl ?_; simp only [push_cast, seval, *]; refine ACall.monoP (hnd _) ?_; (try simp only [push_cast, seval, *]))
    | (refine does_call rfl rfl ?_; simp only [push_cast, seval, *]; refine ACall.monoP (hx _) ?_; (try simp only [push_cast, seval, *]))
    | ((first
      | refine AW_region_draw (id := 12) E0 (fun f => [].contains f) dLDP0 dADP0 mixed (by kernel_rfl) ?_
      | refine AW_region_draw (id := 18) E0 (fun f => [].contains f) dLDP1 dADP1 mixed (by kernel_rfl) ?_
      | refine AW_region_draw (id := 6) E0 (fun f => [].contains f) dLDP1 dADP1 mixed (by kernel_rfl) ?_
      | refine AW_region E0 ?_ | refine AW_ret ?_ | refine AW_exit ?_ | refine AW_skip ?_ | unfold retQ); try simp only [push_cast, seval, *])
    | (apply AW_cond; (case hc => (simp only [push_cast, seval]; rfl)); all_goals (intro hc; first | (exfalso; simp only [push_cast, seval, *] at hc; done) | (exact absurd hc (by decide)) | ((try first | rw [Bool.not_true] at hc | rw [Bool.not_false] at hc); first | (with_reducible replace hc := tTT hc); clear hc | (with_reducible replace hc := tFF hc); clear hc | (have hp := hc; try simp only [decide_eq_true_eq, decide_eq_false_iff_not, bA, bB, bC, bD, bE, bF, bG, bH] at hp))))
    | (refine Kn.go hK ?_; clear hK K)
    | refine Kn.go (by assumption) ?_
    | (intro n hn; (try simp only [upd_none2, join_none_iff, ite_none, ne_eq] at hn); (try simp only [push_cast, seval, *]))
    | (intro hc)
    | fail)
    exact ⟨_, _, Weak.less (by (repeat' (first | exact Heap.le_refl _ | refine hle_upd2 ?_ _ _ | (refine Heap.le_new ?_ ?_; rotate_left 1; focus (first | assumption | (simp only [upd_none2, upd_get, ne_eq, push_cast, seval, *]; done) | (simp [upd_get, *]; done)))))), rfl, rfl⟩
theorem wants_w (o : Op16) (ho : o.names.length ≤ maxLen ∧ o.recs.length ≤ maxLen) (l : Lg) (hok : lgOk l = true) (hno : namedS o = true) (hk : kdS o = 2 ∨ kdS o = 3) : Pure Try.prog 27 [.g (Op16.av o), .g (Lg.av l)] (.t [.g (runR l o).1.av, .c (.int .i64 (runR l o).2.1), .c (.int .i64 (runR l o).2.2)]) := by
  intro H
  have hri := Right_p l (fits_of hok)
  rw [hok] at hri
  have hnd := named_p o ho
  rw [hno] at hnd
  have hx := refWrite_p l hok o.nm (o.recs.take 401) (by simp; omega)
  have hfw := few_p o.recs ho.2
  have hnm := names_p o.names ho.1
  rw [runR_w l o hok hno (by omega)]
  simp only
  generalize (if writeE l o.nm (o.recs.take 401) = 0 then writeL l o.nm (o.recs.take 401) else zeroL) = N at *
  generalize writeE l o.nm (o.recs.take 401) = E at *
  unfold kdS at hk
  obtain ⟨kd, ⟨nms, nma, nmn⟩, nl, rl⟩ := o
  have hav : Op16.av ⟨kd, ⟨nms, nma, nmn⟩, nl, rl⟩ = [.c (.int .i64 kd), .c (.int .i64 nms), .c (.int .i64 nma), .c (.int .i64 nmn), .l 3 (nl.map Nm.av), .l 3 (rl.map Rec.av)] := rfl
  have hnv : Nm.av ⟨nms, nma, nmn⟩ = [.c (.int .i64 nms), .c (.int .i64 nma), .c (.int .i64 nmn)] := rfl
  obtain ⟨a, b, c⟩ := l
  obtain ⟨a', b', c'⟩ := N
  have hlv : ∀ a b c, Lg.av ⟨a, b, c⟩ = [.l 5 (a.map Tx.av), .l 3 (b.map Nm.av), .l 3 (c.map Rec.av)] := fun _ _ _ => rfl
  simp only at hk hx hfw hnm
  try simp only [hnv] at hx
  simp only [hav, hlv] at hri hnd hx ⊢
  generalize hU : IntKind.u64.wrap kd = U at hk
  generalize rl.take 401 = rs at *
  generalize nl.take 30 = ns at *
  clear ho hok hno hav hnv hlv
  rcases hk with hk | hk
  all_goals
    refine ACall_of' Try.func27 rfl (Ent_of Try.func27 (by kernel_rfl) rfl) (by simp [Try.ntmps27]) ?_; simp only [Try.ntmps27, Try.results27]
    repeat' (first
    | refine AW_seq_kn fun K hK => ?_
    | refine AW_block ?_
    | (refine does_call rfl rfl ?_; simp only [push_cast, seval, *]; refine ACall.monoP (hri _) ?_; (try simp only [push_cast, seval, *]))
    | (refine does_call rfl rfl ?_; simp only [push_cast, seval, *]; refine ACall.monoP (hnd _) ?_; (try simp only [push_cast, seval, *]))
    | (refine does_call rfl rfl ?_; simp only [push_cast, seval, *]; refine ACall.monoP (hfw _) ?_; (try simp only [push_cast, seval, *]))
    | (refine does_call rfl rfl ?_; simp only [push_cast, seval, *]; refine ACall.monoP (hx _) ?_; (try simp only [push_cast, seval, *]))
    | ((first
      | refine AW_region_draw (id := 12) E0 (fun f => [].contains f) dLDP0 dADP0 mixed (by kernel_rfl) ?_
      | refine AW_region_draw (id := 18) E0 (fun f => [].contains f) dLDP1 dADP1 mixed (by kernel_rfl) ?_
      | refine AW_region_draw (id := 6) E0 (fun f => [].contains f) dLDP1 dADP1 mixed (by kernel_rfl) ?_
      | refine AW_region E0 ?_ | refine AW_ret ?_ | refine AW_exit ?_ | refine AW_skip ?_ | unfold retQ); try simp only [push_cast, seval, *])
    | (apply AW_cond; (case hc => (simp only [push_cast, seval]; rfl)); all_goals (intro hc; first | (exfalso; simp only [push_cast, seval, *] at hc; done) | (exact absurd hc (by decide)) | ((try first | rw [Bool.not_true] at hc | rw [Bool.not_false] at hc); first | (with_reducible replace hc := tTT hc); clear hc | (with_reducible replace hc := tFF hc); clear hc | (have hp := hc; try simp only [decide_eq_true_eq, decide_eq_false_iff_not, bA, bB, bC, bD, bE, bF, bG, bH] at hp))))
    | (refine Kn.go hK ?_; clear hK K)
    | refine Kn.go (by assumption) ?_
    | (intro n hn; (try simp only [upd_none2, join_none_iff, ite_none, ne_eq] at hn); (try simp only [push_cast, seval, *]))
    | (intro hc)
    | fail)
    exact ⟨_, _, Weak.less (by (repeat' (first | exact Heap.le_refl _ | refine hle_upd2 ?_ _ _ | (refine Heap.le_new ?_ ?_; rotate_left 1; focus (first | assumption | (simp only [upd_none2, upd_get, ne_eq, push_cast, seval, *]; done) | (simp [upd_get, *]; done)))))), rfl, rfl⟩
theorem wants_r (o : Op16) (ho : o.names.length ≤ maxLen ∧ o.recs.length ≤ maxLen) (l : Lg) (hok : lgOk l = true) (hno : namedS o = true) (hk : kdS o = 4 ∨ kdS o = 5) : Pure Try.prog 27 [.g (Op16.av o), .g (Lg.av l)] (.t [.g (runR l o).1.av, .c (.int .i64 (runR l o).2.1), .c (.int .i64 (runR l o).2.2)]) := by
  intro H
  have hri := Right_p l (fits_of hok)
  rw [hok] at hri
  have hnd := named_p o ho
  rw [hno] at hnd
  have hx := refReady_p l hok o.nm
  have hfw := few_p o.recs ho.2
  have hnm := names_p o.names ho.1
  rw [runR_r l o hok hno (by omega)]
  simp only
  generalize (if readyE l o.nm = 0 then readyL l o.nm else zeroL) = N at *
  generalize readyE l o.nm = E at *
  unfold kdS at hk
  obtain ⟨kd, ⟨nms, nma, nmn⟩, nl, rl⟩ := o
  have hav : Op16.av ⟨kd, ⟨nms, nma, nmn⟩, nl, rl⟩ = [.c (.int .i64 kd), .c (.int .i64 nms), .c (.int .i64 nma), .c (.int .i64 nmn), .l 3 (nl.map Nm.av), .l 3 (rl.map Rec.av)] := rfl
  have hnv : Nm.av ⟨nms, nma, nmn⟩ = [.c (.int .i64 nms), .c (.int .i64 nma), .c (.int .i64 nmn)] := rfl
  obtain ⟨a, b, c⟩ := l
  obtain ⟨a', b', c'⟩ := N
  have hlv : ∀ a b c, Lg.av ⟨a, b, c⟩ = [.l 5 (a.map Tx.av), .l 3 (b.map Nm.av), .l 3 (c.map Rec.av)] := fun _ _ _ => rfl
  simp only at hk hx hfw hnm
  try simp only [hnv] at hx
  simp only [hav, hlv] at hri hnd hx ⊢
  generalize hU : IntKind.u64.wrap kd = U at hk
  generalize rl.take 401 = rs at *
  generalize nl.take 30 = ns at *
  clear ho hok hno hav hnv hlv
  rcases hk with hk | hk
  all_goals
    refine ACall_of' Try.func27 rfl (Ent_of Try.func27 (by kernel_rfl) rfl) (by simp [Try.ntmps27]) ?_; simp only [Try.ntmps27, Try.results27]
    repeat' (first
    | refine AW_seq_kn fun K hK => ?_
    | refine AW_block ?_
    | (refine does_call rfl rfl ?_; simp only [push_cast, seval, *]; refine ACall.monoP (hri _) ?_; (try simp only [push_cast, seval, *]))
    | (refine does_call rfl rfl ?_; simp only [push_cast, seval, *]; refine ACall.monoP (hnd _) ?_; (try simp only [push_cast, seval, *]))
    | (refine does_call rfl rfl ?_; simp only [push_cast, seval, *]; refine ACall.monoP (hx _) ?_; (try simp only [push_cast, seval, *]))
    | ((first
      | refine AW_region_draw (id := 12) E0 (fun f => [].contains f) dLDP0 dADP0 mixed (by kernel_rfl) ?_
      | refine AW_region_draw (id := 18) E0 (fun f => [].contains f) dLDP1 dADP1 mixed (by kernel_rfl) ?_
      | refine AW_region_draw (id := 6) E0 (fun f => [].contains f) dLDP1 dADP1 mixed (by kernel_rfl) ?_
      | refine AW_region E0 ?_ | refine AW_ret ?_ | refine AW_exit ?_ | refine AW_skip ?_ | unfold retQ); try simp only [push_cast, seval, *])
    | (apply AW_cond; (case hc => (simp only [push_cast, seval]; rfl)); all_goals (intro hc; first | (exfalso; simp only [push_cast, seval, *] at hc; done) | (exact absurd hc (by decide)) | ((try first | rw [Bool.not_true] at hc | rw [Bool.not_false] at hc); first | (with_reducible replace hc := tTT hc); clear hc | (with_reducible replace hc := tFF hc); clear hc | (have hp := hc; try simp only [decide_eq_true_eq, decide_eq_false_iff_not, bA, bB, bC, bD, bE, bF, bG, bH] at hp))))
    | (refine Kn.go hK ?_; clear hK K)
    | refine Kn.go (by assumption) ?_
    | (intro n hn; (try simp only [upd_none2, join_none_iff, ite_none, ne_eq] at hn); (try simp only [push_cast, seval, *]))
    | (intro hc)
    | fail)
    exact ⟨_, _, Weak.less (by (repeat' (first | exact Heap.le_refl _ | refine hle_upd2 ?_ _ _ | (refine Heap.le_new ?_ ?_; rotate_left 1; focus (first | assumption | (simp only [upd_none2, upd_get, ne_eq, push_cast, seval, *]; done) | (simp [upd_get, *]; done)))))), rfl, rfl⟩
theorem wants_c (o : Op16) (ho : o.names.length ≤ maxLen ∧ o.recs.length ≤ maxLen) (l : Lg) (hok : lgOk l = true) (hno : namedS o = true) (hk : kdS o = 6 ∨ kdS o = 7) : Pure Try.prog 27 [.g (Op16.av o), .g (Lg.av l)] (.t [.g (runR l o).1.av, .c (.int .i64 (runR l o).2.1), .c (.int .i64 (runR l o).2.2)]) := by
  intro H
  have hri := Right_p l (fits_of hok)
  rw [hok] at hri
  have hnd := named_p o ho
  rw [hno] at hnd
  have hx := refCommit_p l hok (o.names.take 30) (by simp; omega)
  have hfw := few_p o.recs ho.2
  have hnm := names_p o.names ho.1
  rw [runR_c l o hok hno (by omega)]
  simp only
  generalize (if commitE l (o.names.take 30) = 0 then commitL l (o.names.take 30) else zeroL) = N at *
  generalize commitE l (o.names.take 30) = E at *
  unfold kdS at hk
  obtain ⟨kd, ⟨nms, nma, nmn⟩, nl, rl⟩ := o
  have hav : Op16.av ⟨kd, ⟨nms, nma, nmn⟩, nl, rl⟩ = [.c (.int .i64 kd), .c (.int .i64 nms), .c (.int .i64 nma), .c (.int .i64 nmn), .l 3 (nl.map Nm.av), .l 3 (rl.map Rec.av)] := rfl
  have hnv : Nm.av ⟨nms, nma, nmn⟩ = [.c (.int .i64 nms), .c (.int .i64 nma), .c (.int .i64 nmn)] := rfl
  obtain ⟨a, b, c⟩ := l
  obtain ⟨a', b', c'⟩ := N
  have hlv : ∀ a b c, Lg.av ⟨a, b, c⟩ = [.l 5 (a.map Tx.av), .l 3 (b.map Nm.av), .l 3 (c.map Rec.av)] := fun _ _ _ => rfl
  simp only at hk hx hfw hnm
  try simp only [hnv] at hx
  simp only [hav, hlv] at hri hnd hx ⊢
  generalize hU : IntKind.u64.wrap kd = U at hk
  generalize rl.take 401 = rs at *
  generalize nl.take 30 = ns at *
  clear ho hok hno hav hnv hlv
  rcases hk with hk | hk
  all_goals
    refine ACall_of' Try.func27 rfl (Ent_of Try.func27 (by kernel_rfl) rfl) (by simp [Try.ntmps27]) ?_; simp only [Try.ntmps27, Try.results27]
    repeat' (first
    | refine AW_seq_kn fun K hK => ?_
    | refine AW_block ?_
    | (refine does_call rfl rfl ?_; simp only [push_cast, seval, *]; refine ACall.monoP (hri _) ?_; (try simp only [push_cast, seval, *]))
    | (refine does_call rfl rfl ?_; simp only [push_cast, seval, *]; refine ACall.monoP (hnd _) ?_; (try simp only [push_cast, seval, *]))
    | (refine does_call rfl rfl ?_; simp only [push_cast, seval, *]; refine ACall.monoP (hnm _) ?_; (try simp only [push_cast, seval, *]))
    | (refine does_call rfl rfl ?_; simp only [push_cast, seval, *]; refine ACall.monoP (hx _) ?_; (try simp only [push_cast, seval, *]))
    | ((first
      | refine AW_region_draw (id := 12) E0 (fun f => [].contains f) dLDP0 dADP0 mixed (by kernel_rfl) ?_
      | refine AW_region_draw (id := 18) E0 (fun f => [].contains f) dLDP1 dADP1 mixed (by kernel_rfl) ?_
      | refine AW_region_draw (id := 6) E0 (fun f => [].contains f) dLDP1 dADP1 mixed (by kernel_rfl) ?_
      | refine AW_region E0 ?_ | refine AW_ret ?_ | refine AW_exit ?_ | refine AW_skip ?_ | unfold retQ); try simp only [push_cast, seval, *])
    | (apply AW_cond; (case hc => (simp only [push_cast, seval]; rfl)); all_goals (intro hc; first | (exfalso; simp only [push_cast, seval, *] at hc; done) | (exact absurd hc (by decide)) | ((try first | rw [Bool.not_true] at hc | rw [Bool.not_false] at hc); first | (with_reducible replace hc := tTT hc); clear hc | (with_reducible replace hc := tFF hc); clear hc | (have hp := hc; try simp only [decide_eq_true_eq, decide_eq_false_iff_not, bA, bB, bC, bD, bE, bF, bG, bH] at hp))))
    | (refine Kn.go hK ?_; clear hK K)
    | refine Kn.go (by assumption) ?_
    | (intro n hn; (try simp only [upd_none2, join_none_iff, ite_none, ne_eq] at hn); (try simp only [push_cast, seval, *]))
    | (intro hc)
    | fail)
    exact ⟨_, _, Weak.less (by (repeat' (first | exact Heap.le_refl _ | refine hle_upd2 ?_ _ _ | (refine Heap.le_new ?_ ?_; rotate_left 1; focus (first | assumption | (simp only [upd_none2, upd_get, ne_eq, push_cast, seval, *]; done) | (simp [upd_get, *]; done)))))), rfl, rfl⟩
theorem wants_a (o : Op16) (ho : o.names.length ≤ maxLen ∧ o.recs.length ≤ maxLen) (l : Lg) (hok : lgOk l = true) (hno : namedS o = true) (hk : kdS o = 8) : Pure Try.prog 27 [.g (Op16.av o), .g (Lg.av l)] (.t [.g (runR l o).1.av, .c (.int .i64 (runR l o).2.1), .c (.int .i64 (runR l o).2.2)]) := by
  intro H
  have hri := Right_p l (fits_of hok)
  rw [hok] at hri
  have hnd := named_p o ho
  rw [hno] at hnd
  have hx := refAbort_p l (fits_of hok) (o.names.take 30) (by simp [maxLen]; omega)
  have hfw := few_p o.recs ho.2
  have hnm := names_p o.names ho.1
  rw [runR_a l o hok hno (by omega)]
  have hal := abortL_le l (o.names.take 30)
  simp only
  obtain ⟨D, hD⟩ : ∃ D, D = l.txs.length - (abortL l (o.names.take 30)).txs.length := ⟨_, rfl⟩
  rw [← hD] at hx ⊢
  generalize abortL l (o.names.take 30) = N at *
  clear hD hal
  unfold kdS at hk
  obtain ⟨kd, ⟨nms, nma, nmn⟩, nl, rl⟩ := o
  have hav : Op16.av ⟨kd, ⟨nms, nma, nmn⟩, nl, rl⟩ = [.c (.int .i64 kd), .c (.int .i64 nms), .c (.int .i64 nma), .c (.int .i64 nmn), .l 3 (nl.map Nm.av), .l 3 (rl.map Rec.av)] := rfl
  have hnv : Nm.av ⟨nms, nma, nmn⟩ = [.c (.int .i64 nms), .c (.int .i64 nma), .c (.int .i64 nmn)] := rfl
  obtain ⟨a, b, c⟩ := l
  obtain ⟨a', b', c'⟩ := N
  have hlv : ∀ a b c, Lg.av ⟨a, b, c⟩ = [.l 5 (a.map Tx.av), .l 3 (b.map Nm.av), .l 3 (c.map Rec.av)] := fun _ _ _ => rfl
  simp only at hk hx hfw hnm
  try simp only [hnv] at hx
  simp only [hav, hlv] at hri hnd hx ⊢
  generalize hU : IntKind.u64.wrap kd = U at hk
  generalize rl.take 401 = rs at *
  generalize nl.take 30 = ns at *
  clear ho hok hno hav hnv hlv
  skip
  all_goals
    refine ACall_of' Try.func27 rfl (Ent_of Try.func27 (by kernel_rfl) rfl) (by simp [Try.ntmps27]) ?_; simp only [Try.ntmps27, Try.results27]
    repeat' (first
    | refine AW_seq_kn fun K hK => ?_
    | refine AW_block ?_
    | (refine does_call rfl rfl ?_; simp only [push_cast, seval, *]; refine ACall.monoP (hri _) ?_; (try simp only [push_cast, seval, *]))
    | (refine does_call rfl rfl ?_; simp only [push_cast, seval, *]; refine ACall.monoP (hnd _) ?_; (try simp only [push_cast, seval, *]))
    | (refine does_call rfl rfl ?_; simp only [push_cast, seval, *]; refine ACall.monoP (hnm _) ?_; (try simp only [push_cast, seval, *]))
    | (refine does_call rfl rfl ?_; simp only [push_cast, seval, *]; refine ACall.monoP (hx _) ?_; (try simp only [push_cast, seval, *]))
    | ((first
      | refine AW_region_draw (id := 12) E0 (fun f => [].contains f) dLDP0 dADP0 mixed (by kernel_rfl) ?_
      | refine AW_region_draw (id := 18) E0 (fun f => [].contains f) dLDP1 dADP1 mixed (by kernel_rfl) ?_
      | refine AW_region_draw (id := 6) E0 (fun f => [].contains f) dLDP1 dADP1 mixed (by kernel_rfl) ?_
      | refine AW_region E0 ?_ | refine AW_ret ?_ | refine AW_exit ?_ | refine AW_skip ?_ | unfold retQ); try simp only [push_cast, seval, *])
    | (apply AW_cond; (case hc => (simp only [push_cast, seval]; rfl)); all_goals (intro hc; first | (exfalso; simp only [push_cast, seval, *] at hc; done) | (exact absurd hc (by decide)) | ((try first | rw [Bool.not_true] at hc | rw [Bool.not_false] at hc); first | (with_reducible replace hc := tTT hc); clear hc | (with_reducible replace hc := tFF hc); clear hc | (have hp := hc; try simp only [decide_eq_true_eq, decide_eq_false_iff_not, bA, bB, bC, bD, bE, bF, bG, bH] at hp))))
    | (refine Kn.go hK ?_; clear hK K)
    | refine Kn.go (by assumption) ?_
    | (intro n hn; (try simp only [upd_none2, join_none_iff, ite_none, ne_eq] at hn); (try simp only [push_cast, seval, *]))
    | (intro hc)
    | fail)
    exact ⟨_, _, Weak.less (by (repeat' (first | exact Heap.le_refl _ | refine hle_upd2 ?_ _ _ | (refine Heap.le_new ?_ ?_; rotate_left 1; focus (first | assumption | (simp only [upd_none2, upd_get, ne_eq, push_cast, seval, *]; done) | (simp [upd_get, *]; done)))))), rfl, rfl⟩
theorem wants_p (o : Op16) (ho : o.names.length ≤ maxLen ∧ o.recs.length ≤ maxLen) (l : Lg) (hf : l.fits) : Pure Try.prog 27 [.g (Op16.av o), .g (Lg.av l)] (.t [.g (runR l o).1.av, .c (.int .i64 (runR l o).2.1), .c (.int .i64 (runR l o).2.2)]) := by
  cases hok : lgOk l
  · intro H
    have hri := Right_p l hf
    rw [hok] at hri
    rw [runR_no l o hok]
    obtain ⟨kd, ⟨nms, nma, nmn⟩, nl, rl⟩ := o
    obtain ⟨a, b, c⟩ := l
    have hz : zeroL.av = [.l 5 [], .l 3 [], .l 3 []] := rfl
    simp only [Lg.av, Op16.av] at hri ⊢
    simp only [Lg.av] at hz
    clear ho hf hok
    refine ACall_of' Try.func27 rfl (Ent_of Try.func27 (by kernel_rfl) rfl) (by simp [Try.ntmps27]) ?_; simp only [Try.ntmps27, Try.results27]
    repeat' (first
    | refine AW_seq_kn fun K hK => ?_
    | refine AW_block ?_
    | (refine does_call rfl rfl ?_; simp only [push_cast, seval, *]; refine ACall.monoP (hri _) ?_; (try simp only [push_cast, seval, *]))
    | ((first
      | refine AW_region_draw (id := 12) E0 (fun f => [].contains f) dLDP0 dADP0 mixed (by kernel_rfl) ?_
      | refine AW_region_draw (id := 18) E0 (fun f => [].contains f) dLDP1 dADP1 mixed (by kernel_rfl) ?_
      | refine AW_region_draw (id := 6) E0 (fun f => [].contains f) dLDP1 dADP1 mixed (by kernel_rfl) ?_
      | refine AW_region E0 ?_ | refine AW_ret ?_ | refine AW_exit ?_ | refine AW_skip ?_ | unfold retQ); try simp only [push_cast, seval, *])
    | (apply AW_cond; (case hc => (simp only [push_cast, seval]; rfl)); all_goals (intro hc; first | (exfalso; simp only [push_cast, seval, *] at hc; done) | (exact absurd hc (by decide)) | ((try first | rw [Bool.not_true] at hc | rw [Bool.not_false] at hc); first | (with_reducible replace hc := tTT hc); clear hc | (with_reducible replace hc := tFF hc); clear hc | (have hp := hc; try simp only [decide_eq_true_eq, decide_eq_false_iff_not, bA, bB, bC, bD, bE, bF, bG, bH] at hp))))
    | (refine Kn.go hK ?_; clear hK K)
    | refine Kn.go (by assumption) ?_
    | (intro n hn; (try simp only [upd_none2, join_none_iff, ite_none, ne_eq] at hn); (try simp only [push_cast, seval, *]))
    | (intro hc)
    | fail)
    exact ⟨_, H, Weak.trans (Weak.less (by (repeat' (first | exact Heap.le_refl _ | refine hle_upd2 ?_ _ _ | (refine Heap.le_new ?_ ?_; rotate_left 1; focus (first | assumption | (simp only [upd_none2, upd_get, ne_eq, push_cast, seval, *]; done) | (simp [upd_get, *]; done))))))) (wants_zero H 260), rfl, rfl⟩
  cases hno : namedS o
  · intro H
    have hri := Right_p l hf
    rw [hok] at hri
    have hnd := named_p o ho
    rw [hno] at hnd
    rw [runR_nn l o hok hno]
    obtain ⟨kd, ⟨nms, nma, nmn⟩, nl, rl⟩ := o
    obtain ⟨a, b, c⟩ := l
    have hz : zeroL.av = [.l 5 [], .l 3 [], .l 3 []] := rfl
    simp only [Lg.av, Op16.av] at hri hnd ⊢
    simp only [Lg.av] at hz
    clear ho hf hok hno
    refine ACall_of' Try.func27 rfl (Ent_of Try.func27 (by kernel_rfl) rfl) (by simp [Try.ntmps27]) ?_; simp only [Try.ntmps27, Try.results27]
    repeat' (first
    | refine AW_seq_kn fun K hK => ?_
    | refine AW_block ?_
    | (refine does_call rfl rfl ?_; simp only [push_cast, seval, *]; refine ACall.monoP (hri _) ?_; (try simp only [push_cast, seval, *]))
    | (refine does_call rfl rfl ?_; simp only [push_cast, seval, *]; refine ACall.monoP (hnd _) ?_; (try simp only [push_cast, seval, *]))
    | ((first
      | refine AW_region_draw (id := 12) E0 (fun f => [].contains f) dLDP0 dADP0 mixed (by kernel_rfl) ?_
      | refine AW_region_draw (id := 18) E0 (fun f => [].contains f) dLDP1 dADP1 mixed (by kernel_rfl) ?_
      | refine AW_region_draw (id := 6) E0 (fun f => [].contains f) dLDP1 dADP1 mixed (by kernel_rfl) ?_
      | refine AW_region E0 ?_ | refine AW_ret ?_ | refine AW_exit ?_ | refine AW_skip ?_ | unfold retQ); try simp only [push_cast, seval, *])
    | (apply AW_cond; (case hc => (simp only [push_cast, seval]; rfl)); all_goals (intro hc; first | (exfalso; simp only [push_cast, seval, *] at hc; done) | (exact absurd hc (by decide)) | ((try first | rw [Bool.not_true] at hc | rw [Bool.not_false] at hc); first | (with_reducible replace hc := tTT hc); clear hc | (with_reducible replace hc := tFF hc); clear hc | (have hp := hc; try simp only [decide_eq_true_eq, decide_eq_false_iff_not, bA, bB, bC, bD, bE, bF, bG, bH] at hp))))
    | (refine Kn.go hK ?_; clear hK K)
    | refine Kn.go (by assumption) ?_
    | (intro n hn; (try simp only [upd_none2, join_none_iff, ite_none, ne_eq] at hn); (try simp only [push_cast, seval, *]))
    | (intro hc)
    | fail)
    exact ⟨_, H, Weak.trans (Weak.less (by (repeat' (first | exact Heap.le_refl _ | refine hle_upd2 ?_ _ _ | (refine Heap.le_new ?_ ?_; rotate_left 1; focus (first | assumption | (simp only [upd_none2, upd_get, ne_eq, push_cast, seval, *]; done) | (simp [upd_get, *]; done))))))) (wants_zero H 2), rfl, rfl⟩
  have hb := kdS_bd o
  have hc : (kdS o = 0 ∨ kdS o = 1) ∨ (kdS o = 2 ∨ kdS o = 3) ∨ (kdS o = 4 ∨ kdS o = 5) ∨ (kdS o = 6 ∨ kdS o = 7) ∨ kdS o = 8 := by omega
  rcases hc with h | h | h | h | h
  · exact wants_o o ho l hok hno h
  · exact wants_w o ho l hok hno h
  · exact wants_r o ho l hok hno h
  · exact wants_c o ho l hok hno h
  · exact wants_a o ho l hok hno h
end Go.Proofs.Ytdeckjoeggmagaa
