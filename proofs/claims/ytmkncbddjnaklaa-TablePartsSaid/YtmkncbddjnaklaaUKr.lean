/- Walks: the document on Join. -/
import Derived.Test.YtmkncbddjnaklaaUK
import Derived.Test.YtmkncbddjnaklaaTG
import Derived.Test.YtmkncbddjnaklaaTK
import Derived.Test.YtmkncbddjnaklaaTC2
import Derived.Test.YtmkncbddjnaklaaTI
namespace Go.Proofs.Ytmkncbddjnaklaa
open Go.RowKit
open Nat renaming reduceEqDiff → nA, reduceLT → nB, reduceLeDiff → nC, reduceAdd → nD, reduceMul → nE, reduceSub → nF, reduceBEq → nG
open Int renaming reduceToNat → iA, reduceLT → iB, reduceLE → iC, reduceEq → iD
open Bool renaming and_eq_true → bA, or_eq_true → bB, or_eq_false_iff → bC, and_eq_false_iff → bD, not_eq_true' → bE, not_eq_false' → bF, not_true → bG, not_false → bH
set_option linter.all false
set_option maxHeartbeats 4000000
attribute [local irreducible] AW Does ACall tE tS tB tZ
def dLUKr0 : List En := [(0, true, []), (1, false, []), (4, false, []), (2, false, [0]), (3, false, []), (5, false, [])]
def dAUKr0 : List (List Nat) := [[], [], [1], [0, 1, 2], [], [0, 1, 2, 3, 4]]
attribute [push_cast] dLUKr0
def dLUKr1 : List En := [(0, true, []), (1, false, []), (3, false, []), (4, true, []), (2, false, [0, 4]), (5, false, []), (6, false, [])]
def dAUKr1 : List (List Nat) := [[], [], [1], [], [3], [0, 1, 2, 3, 4], [0, 1, 2, 3, 4, 5]]
attribute [push_cast] dLUKr1

theorem nil_tab3 {F : Mem} {e : AV} : Imp F F (.t [.g [.c (.slice none 0 0)], e]) (.t [.g [.l 4 []], e]) := Imp.t (Imps.cons (Imp.g (Imps.cons (Imp.nil_l 4) (fun _ => rfl) Imps.nil)) id (Imps.cons (Imp.refl (Mem.le.refl F) _) id Imps.nil))
/-- the document's loop -/
def rjGo (a : List KC) : List KC → List KC → List KC × Int
  | T, [] => (T, 0)
  | T, x :: l => if ¬ getS a (keyS x) = zeroC then ([], 5) else rjGo a (setS T (keyS x) (cellK x)) l
def rjoinD (a b : List KC) : List KC × Int := if tOk a = false then ([], 220) else if tOk b = false then ([], 220) else rjGo a a b
theorem rjoin_p (a b : List KC) (ha : a.length ≤ 9000) (hb : b.length ≤ 9000) :
    Pure Try.prog 46 [.g [.l 4 (a.map KC.av)], .g [.l 4 (b.map KC.av)]] (.t [.g [.l 4 ((rjoinD a b).1.map KC.av)], .c (.int .i64 (rjoinD a b).2)]) := by
  intro H
  have hD : rjoinD a b = if tOk a = false then ([], 220) else if tOk b = false then ([], 220) else rjGo a a b := rfl
  have hra := tright_p a (by unfold maxLen; omega)
  have hrb := tright_p b (by unfold maxLen; omega)
  have hcp := copy12_p a (by omega)
  have hge := rget_p a (by unfold maxLen; omega)
  have hri : tOk a = true → Rise a := tOk_rise
  generalize rjoinD a b = D at *
  obtain ⟨D1, D2⟩ := D
  cases hoa : tOk a
  · rw [hoa] at hra hD
    simp only [Bool.false_eq_true, if_false, if_true, vBF, Prod.mk.injEq] at hra hD
    obtain ⟨rfl, rfl⟩ := hD
    clear hrb hcp hge
    refine ACall_of' Try.func46 rfl (Ent_of Try.func46 (by kernel_rfl) rfl) (by simp [Try.ntmps46]) ?_; simp only [Try.ntmps46, Try.results46]
    repeat' (first
    | refine AW_seq_kn fun K hK => ?_
    | refine AW_block ?_
    | (refine does_call rfl rfl ?_; simp only [push_cast, seval, *]; refine ACall.monoP (hra _) ?_; (try simp only [push_cast, seval, *]))
    | (refine does_call rfl rfl ?_; simp only [push_cast, seval, *]; refine ACall.monoP (rkey_p ⟨_, _, _, _⟩ _) ?_; (try simp only [push_cast, seval, *]))
    | (refine does_call rfl rfl ?_; simp only [push_cast, seval, *]; refine ACall.monoP (rget_p _ (by assumption) ⟨_, _, _⟩ _) ?_; (try simp only [push_cast, seval, *]))
    | (refine does_call rfl rfl ?_; simp only [push_cast, seval, *]; refine ACall.monoP (copy12_p _ (by assumption) _) ?_; (try simp only [push_cast, seval, *]))
    | ((first
      | refine AW_region_draw (id := 7) E0 (fun f => [].contains f) dLUKr0 dAUKr0 mixed (by kernel_rfl) ?_
      | refine AW_region_draw (id := 9) E0 (fun f => [].contains f) dLUKr1 dAUKr1 mixed (by kernel_rfl) ?_
      | refine AW_region E0 ?_ | refine AW_ret ?_ | refine AW_exit ?_ | refine AW_skip ?_ | unfold retQ); try simp only [push_cast, seval, *])
    | ((first | (apply AW_cond; (case hc => (simp only [push_cast, seval]; rfl))) | (apply ER_guard; (case hb => (simp only [push_cast, seval]; rfl)))); all_goals ((intro hc; first | (exfalso; simp only [push_cast, seval, *] at hc; done) | (exact absurd hc (by decide)) | ((try first | rw [Bool.not_true] at hc | rw [Bool.not_false] at hc); first | (with_reducible replace hc := tTT hc); clear hc | (with_reducible replace hc := tFF hc); clear hc | (have hp := hc; try simp only [decide_eq_true_eq, decide_eq_false_iff_not, bA, bB, bC, bD, bE, bF, bG, bH] at hp))) <;> try simp only [push_cast, seval, *]))
    | (refine Kn.go hK ?_; clear hK K)
    | refine Kn.go (by assumption) ?_
    | (intro n hn; (try simp only [upd_none2, join_none_iff, ite_none, ne_eq] at hn); (try simp only [push_cast, seval, *]))
    | (intro hc)
    | (apply ER_blk; (case hp => rfl); (case hb => (simp only [push_cast, seval]; rfl)); (case hd => (simp only [push_cast, seval]; done)); (case h => (intro hc; simp only [push_cast, seval, *]; rfl)); simp only [push_cast, seval, *])
    | fail)
    exact ⟨_, _, Weak.imp (fun F => nil_tab3) (by (simp only [push_cast, seval, *])), rfl, rfl⟩
  cases hob : tOk b
  · rw [hoa] at hra hD
    rw [hob] at hrb hD
    simp only [Bool.false_eq_true, Bool.true_eq_false, if_false, if_true, vBF, vBT, Prod.mk.injEq] at hra hrb hD
    obtain ⟨rfl, rfl⟩ := hD
    clear hcp hge
    refine ACall_of' Try.func46 rfl (Ent_of Try.func46 (by kernel_rfl) rfl) (by simp [Try.ntmps46]) ?_; simp only [Try.ntmps46, Try.results46]
    repeat' (first
    | refine AW_seq_kn fun K hK => ?_
    | refine AW_block ?_
    | (refine does_call rfl rfl ?_; simp only [push_cast, seval, *]; refine ACall.monoP (hra _) ?_; (try simp only [push_cast, seval, *]))
    | (refine does_call rfl rfl ?_; simp only [push_cast, seval, *]; refine ACall.monoP (hrb _) ?_; (try simp only [push_cast, seval, *]))
    | (refine does_call rfl rfl ?_; simp only [push_cast, seval, *]; refine ACall.monoP (rkey_p ⟨_, _, _, _⟩ _) ?_; (try simp only [push_cast, seval, *]))
    | (refine does_call rfl rfl ?_; simp only [push_cast, seval, *]; refine ACall.monoP (rget_p _ (by assumption) ⟨_, _, _⟩ _) ?_; (try simp only [push_cast, seval, *]))
    | (refine does_call rfl rfl ?_; simp only [push_cast, seval, *]; refine ACall.monoP (copy12_p _ (by assumption) _) ?_; (try simp only [push_cast, seval, *]))
    | ((first
      | refine AW_region_draw (id := 7) E0 (fun f => [].contains f) dLUKr0 dAUKr0 mixed (by kernel_rfl) ?_
      | refine AW_region_draw (id := 9) E0 (fun f => [].contains f) dLUKr1 dAUKr1 mixed (by kernel_rfl) ?_
      | refine AW_region E0 ?_ | refine AW_ret ?_ | refine AW_exit ?_ | refine AW_skip ?_ | unfold retQ); try simp only [push_cast, seval, *])
    | ((first | (apply AW_cond; (case hc => (simp only [push_cast, seval]; rfl))) | (apply ER_guard; (case hb => (simp only [push_cast, seval]; rfl)))); all_goals ((intro hc; first | (exfalso; simp only [push_cast, seval, *] at hc; done) | (exact absurd hc (by decide)) | ((try first | rw [Bool.not_true] at hc | rw [Bool.not_false] at hc); first | (with_reducible replace hc := tTT hc); clear hc | (with_reducible replace hc := tFF hc); clear hc | (have hp := hc; try simp only [decide_eq_true_eq, decide_eq_false_iff_not, bA, bB, bC, bD, bE, bF, bG, bH] at hp))) <;> try simp only [push_cast, seval, *]))
    | (refine Kn.go hK ?_; clear hK K)
    | refine Kn.go (by assumption) ?_
    | (intro n hn; (try simp only [upd_none2, join_none_iff, ite_none, ne_eq] at hn); (try simp only [push_cast, seval, *]))
    | (intro hc)
    | (apply ER_blk; (case hp => rfl); (case hb => (simp only [push_cast, seval]; rfl)); (case hd => (simp only [push_cast, seval]; done)); (case h => (intro hc; simp only [push_cast, seval, *]; rfl)); simp only [push_cast, seval, *])
    | fail)
    exact ⟨_, _, Weak.imp (fun F => nil_tab3) (by (simp only [push_cast, seval, *])), rfl, rfl⟩
  rw [hoa] at hra hD
  rw [hob] at hrb hD
  simp only [Bool.true_eq_false, if_false, if_true, vBT] at hra hrb hD
  replace hri := Lib.hid (hri hoa)
  replace hge := Lib.hid hge
  replace hD := Lib.hid hD
  clear hoa hob
  refine ACall_of' Try.func46 rfl (Ent_of Try.func46 (by kernel_rfl) rfl) (by simp [Try.ntmps46]) ?_; simp only [Try.ntmps46, Try.results46]
  repeat' (first
    | refine AW_seq_kn fun K hK => ?_
    | refine AW_block ?_
    | (refine does_call rfl rfl ?_; simp only [push_cast, seval, *]; refine ACall.monoP (hra _) ?_; (try simp only [push_cast, seval, *]))
    | (refine does_call rfl rfl ?_; simp only [push_cast, seval, *]; refine ACall.monoP (hrb _) ?_; (try simp only [push_cast, seval, *]))
    | (refine does_call rfl rfl ?_; simp only [push_cast, seval, *]; refine ACall.monoP (hcp _) ?_; (try simp only [push_cast, seval, *]))
    | (refine does_call rfl rfl ?_; simp only [push_cast, seval, *]; refine ACall.monoP (rkey_p ⟨_, _, _, _⟩ _) ?_; (try simp only [push_cast, seval, *]))
    | (refine does_call rfl rfl ?_; simp only [push_cast, seval, *]; refine ACall.monoP (rget_p _ (by assumption) ⟨_, _, _⟩ _) ?_; (try simp only [push_cast, seval, *]))
    | (refine does_call rfl rfl ?_; simp only [push_cast, seval, *]; refine ACall.monoP (copy12_p _ (by assumption) _) ?_; (try simp only [push_cast, seval, *]))
    | ((first
      | refine AW_region_draw (id := 7) E0 (fun f => [].contains f) dLUKr0 dAUKr0 mixed (by kernel_rfl) ?_
      | refine AW_region_draw (id := 9) E0 (fun f => [].contains f) dLUKr1 dAUKr1 mixed (by kernel_rfl) ?_
      | refine AW_region E0 ?_ | refine AW_ret ?_ | refine AW_exit ?_ | refine AW_skip ?_ | unfold retQ); try simp only [push_cast, seval, *])
    | ((first | (apply AW_cond; (case hc => (simp only [push_cast, seval]; rfl))) | (apply ER_guard; (case hb => (simp only [push_cast, seval]; rfl)))); all_goals ((intro hc; first | (exfalso; simp only [push_cast, seval, *] at hc; done) | (exact absurd hc (by decide)) | ((try first | rw [Bool.not_true] at hc | rw [Bool.not_false] at hc); first | (with_reducible replace hc := tTT hc); clear hc | (with_reducible replace hc := tFF hc); clear hc | (have hp := hc; try simp only [decide_eq_true_eq, decide_eq_false_iff_not, bA, bB, bC, bD, bE, bF, bG, bH] at hp))) <;> try simp only [push_cast, seval, *]))
    | (refine Kn.go hK ?_; clear hK K)
    | refine Kn.go (by assumption) ?_
    | (intro n hn; (try simp only [upd_none2, join_none_iff, ite_none, ne_eq] at hn); (try simp only [push_cast, seval, *]))
    | (intro hc)
    | (apply ER_blk; (case hp => rfl); (case hb => (simp only [push_cast, seval]; rfl)); (case hd => (simp only [push_cast, seval]; done)); (case h => (intro hc; simp only [push_cast, seval, *]; rfl)); simp only [push_cast, seval, *])
    | fail)
  rename_i n2 h2 n3 h3 n4 h4
  generalize n = n6 at *
  obtain ⟨Gs, hGs⟩ : ∃ Gs : Heap, Gs = upd (upd (upd H n2 (tbB a)) n3 (tbB b)) n4 (.r 49 1 1 [[.c (.slice none 0 0)]]) := ⟨_, rfl⟩
  have g2 : Gs n2 = some (tbB a) := by rw [hGs]; simp only [push_cast, seval, *]
  have g4 : Gs n4 = some (.r 49 1 1 [[.c (.slice none 0 0)]]) := by rw [hGs]; exact upd_same _ _ _
  have hG6 : Gs n6 = none := by rw [hGs]; simp only [upd_none2]; exact hn
  have hH4 : H n4 = none := h4.2.2
  have hle : Heap.le H Gs := by rw [hGs]; simp only [tbB]; (repeat' (first | exact Heap.le_refl _ | refine hle_upd2 ?_ _ _ | (refine Heap.le_new ?_ ?_; rotate_left 1; focus (first | assumption | (simp only [upd_none2, upd_get, ne_eq, push_cast, seval, *]; done) | (simp [upd_get, *]; done)))))
  simp only [tbB] at hGs g2
  rw [← hGs]
  clear hGs h2 h3 h4 hn hra hrb hcp
  have c26 : ¬ n2 = n6 := by rintro rfl; rw [g2] at hG6; cases hG6
  have c46 : ¬ n4 = n6 := by rintro rfl; rw [g4] at hG6; cases hG6
  have hfl : ∀ x y z n, Gs n = none → Heap.le H (upd (upd (upd Gs n6 x) n z) n4 y) := fun x y u n hn q z hq => by
    have c4 : ¬ q = n4 := by rintro rfl; rw [hH4] at hq; cases hq
    have hz := hle q z hq
    have c6 : ¬ q = n6 := by rintro rfl; rw [hG6] at hz; cases hz
    have cn : ¬ q = n := by rintro rfl; rw [hn] at hz; cases hz
    rw [upd_ne c4, upd_ne cn, upd_ne c6]; exact hz
  replace hle := Lib.hid hle
  replace hfl := Lib.hid hfl
  have hno2 := ne_old g2
  have hno4 := ne_old g4
  refine AW_loopX (σ := List KC) b.length (fun k T => (D1, D2) = rjGo a T (b.drop k) ∧ Rise T ∧ T.length ≤ 9000 + k) (fun k T => [(2, .p n2 1 0 0), (4, .p n4 1 0 0), (6, .p n6 1 0 0), (21, .l 4 (b.map KC.av)), (22, ci b.length), (23, ci k)]) (fun _ T => upd Gs n6 (.r 49 1 1 [[.l 4 (T.map KC.av)]])) a ⟨unhid hD, unhid hri, by omega⟩ ?_ ?_ ?_ ?_
  · (first | trivial | (simp only [push_cast, seval, *]; done))
  · (first | trivial | ((simp only [push_cast, seval, *]); repeat' (first | rfl | exact Heap.le_refl _ | refine And.intro ?_ ?_)) | rfl | exact ⟨rfl, rfl⟩ | exact ⟨rfl, rfl, rfl⟩ | exact Heap.le_refl _)
  · rintro k T hk ⟨hj, hrT, hTl⟩
    have hy := List.getElem?_eq_getElem (l := b) hk; generalize b[k] = y at hy; have hym := List.mem_of_getElem? hy; have hkl : (k : Int) < b.length := (by omega); have hkw : IntKind.i64.wrap ((k : Int) + 1) = (k : Int) + 1 := wrap_i64 (by omega) (by omega)
    rw [drop_get hy] at hj
    simp only [rjGo] at hj
    have hty : List.take 4 (KC.av y) = KC.av y := rfl
    have hky := rkey_p y
    have hgy := unhid hge (keyS y)
    have hpu := rput_p T (by omega) hrT (keyS y) (cellK y)
    have hsr := setS_rise hrT (keyS y) (cellK y)
    have hsn := setS_len T (keyS y) (cellK y)
    generalize setS T (keyS y) (cellK y) = S at *
    have hc2 : (∃ n s, getS a (keyS y) = ⟨n, s⟩) := ⟨_, _, rfl⟩
    obtain ⟨gn, gs, hgg⟩ := hc2
    rw [hgg] at hgy hj
    obtain ⟨ys, yk, yn, yt⟩ := y
    simp only [KC.av, Rec.av, CellD.av, keyS, cellK] at hky hgy hpu
    have hz3 : ((gn = 0) = False ∧ (gs = 0) = False) ∨ ((gn = 0) = False ∧ (gs = 0) = True) ∨ ((gn = 0) = True ∧ (gs = 0) = False) ∨ ((gn = 0) = True ∧ (gs = 0) = True) := by
      simp only [eq_iff_iff, iff_true, iff_false]; omega
    have hzn : (gn = 0) = False ∨ (gs = 0) = False → ¬ (⟨gn, gs⟩ : CellD) = zeroC := fun h e => by
      have e1 := congrArg CellD.count e
      have e2 := congrArg CellD.sum e
      simp only [zeroC] at e1 e2
      rcases h with h | h
      · rw [e1] at h; simp at h
      · rw [e2] at h; simp at h
    have hzy : (gn = 0) = True → (gs = 0) = True → (⟨gn, gs⟩ : CellD) = zeroC := fun e1 e2 => by
      have e1 := of_eq_true e1
      have e2 := of_eq_true e2
      subst e1 e2; rfl
    replace hsr := Lib.hid hsr
    replace hzn := Lib.hid hzn
    replace hzy := Lib.hid hzy
    clear hgg hrT
    replace hj := Lib.hid hj
    rcases hz3 with ⟨z1, z2⟩ | ⟨z1, z2⟩ | ⟨z1, z2⟩ | ⟨z1, z2⟩
    rotate_right
    · have hj2 := unhid hj
      rw [if_neg (by simp [unhid hzy z1 z2])] at hj2
      replace hj2 := Lib.hid hj2
      clear hj hzn hzy
      repeat' (first
    | refine AW_seq_kn fun K hK => ?_
    | refine AW_block ?_
    | (refine does_call rfl rfl ?_; simp only [push_cast, seval, *]; refine ACall.monoP (hky _) ?_; (try simp only [push_cast, seval, *]))
    | (refine does_call rfl rfl ?_; simp only [push_cast, seval, *]; refine ACall.monoP (hgy _) ?_; (try simp only [push_cast, seval, *]))
    | (refine does_call rfl rfl ?_; simp only [push_cast, seval, *]; refine ACall.monoP (hpu _) ?_; (try simp only [push_cast, seval, *]))
    | (refine does_call rfl rfl ?_; simp only [push_cast, seval, *]; refine ACall.monoP (rkey_p ⟨_, _, _, _⟩ _) ?_; (try simp only [push_cast, seval, *]))
    | (refine does_call rfl rfl ?_; simp only [push_cast, seval, *]; refine ACall.monoP (rget_p _ (by assumption) ⟨_, _, _⟩ _) ?_; (try simp only [push_cast, seval, *]))
    | (refine does_call rfl rfl ?_; simp only [push_cast, seval, *]; refine ACall.monoP (copy12_p _ (by assumption) _) ?_; (try simp only [push_cast, seval, *]))
    | ((first
      | refine AW_region_draw (id := 7) E0 (fun f => [].contains f) dLUKr0 dAUKr0 mixed (by kernel_rfl) ?_
      | refine AW_region_draw (id := 9) E0 (fun f => [].contains f) dLUKr1 dAUKr1 mixed (by kernel_rfl) ?_
      | refine AW_region E0 ?_ | refine AW_ret ?_ | refine AW_exit ?_ | refine AW_skip ?_ | unfold retQ); try simp only [push_cast, seval, *])
    | ((first | (apply AW_cond; (case hc => (simp only [push_cast, seval]; rfl))) | (apply ER_guard; (case hb => (simp only [push_cast, seval]; rfl)))); all_goals ((intro hc; first | (exfalso; simp only [push_cast, seval, *] at hc; done) | (exact absurd hc (by decide)) | ((try first | rw [Bool.not_true] at hc | rw [Bool.not_false] at hc); first | (with_reducible replace hc := tTT hc); clear hc | (with_reducible replace hc := tFF hc); clear hc | (have hp := hc; try simp only [decide_eq_true_eq, decide_eq_false_iff_not, bA, bB, bC, bD, bE, bF, bG, bH] at hp))) <;> try simp only [push_cast, seval, *]))
    | (refine Kn.go hK ?_; clear hK K)
    | refine Kn.go (by assumption) ?_
    | (intro n hn; (try simp only [upd_none2, join_none_iff, ite_none, ne_eq] at hn); (try simp only [push_cast, seval, *]))
    | (intro hc)
    | (apply ER_blk; (case hp => rfl); (case hb => (simp only [push_cast, seval]; rfl)); (case hd => (simp only [push_cast, seval]; done)); (case h => (intro hc; simp only [push_cast, seval, *]; rfl)); simp only [push_cast, seval, *])
    | fail)
      exact ⟨S, ⟨unhid hj2, unhid hsr, by omega⟩, by (first | trivial | (simp only [push_cast, seval, *]; done)), by first | rfl | exact cut1_le hn.2 | (repeat' (first | exact Heap.le_refl _ | refine hle_upd2 ?_ _ _ | (refine Heap.le_new ?_ ?_; rotate_left 1; focus (first | assumption | (simp only [upd_none2, upd_get, ne_eq, push_cast, seval, *]; done) | (simp [upd_get, *]; done)))))⟩
    all_goals
      have hj2 := unhid hj
      rw [if_pos (unhid hzn (by first | exact .inl z1 | exact .inr z2))] at hj2
      simp only [Prod.mk.injEq] at hj2
      obtain ⟨rfl, rfl⟩ := hj2
      clear hj hzn hzy hD hpu
      repeat' (first
    | refine AW_seq_kn fun K hK => ?_
    | refine AW_block ?_
    | (refine does_call rfl rfl ?_; simp only [push_cast, seval, *]; refine ACall.monoP (hky _) ?_; (try simp only [push_cast, seval, *]))
    | (refine does_call rfl rfl ?_; simp only [push_cast, seval, *]; refine ACall.monoP (hgy _) ?_; (try simp only [push_cast, seval, *]))
    | (refine does_call rfl rfl ?_; simp only [push_cast, seval, *]; refine ACall.monoP (rkey_p ⟨_, _, _, _⟩ _) ?_; (try simp only [push_cast, seval, *]))
    | (refine does_call rfl rfl ?_; simp only [push_cast, seval, *]; refine ACall.monoP (rget_p _ (by assumption) ⟨_, _, _⟩ _) ?_; (try simp only [push_cast, seval, *]))
    | (refine does_call rfl rfl ?_; simp only [push_cast, seval, *]; refine ACall.monoP (copy12_p _ (by assumption) _) ?_; (try simp only [push_cast, seval, *]))
    | ((first
      | refine AW_region_draw (id := 7) E0 (fun f => [].contains f) dLUKr0 dAUKr0 mixed (by kernel_rfl) ?_
      | refine AW_region_draw (id := 9) E0 (fun f => [].contains f) dLUKr1 dAUKr1 mixed (by kernel_rfl) ?_
      | refine AW_region E0 ?_ | refine AW_ret ?_ | refine AW_exit ?_ | refine AW_skip ?_ | unfold retQ); try simp only [push_cast, seval, *])
    | ((first | (apply AW_cond; (case hc => (simp only [push_cast, seval]; rfl))) | (apply ER_guard; (case hb => (simp only [push_cast, seval]; rfl)))); all_goals ((intro hc; first | (exfalso; simp only [push_cast, seval, *] at hc; done) | (exact absurd hc (by decide)) | ((try first | rw [Bool.not_true] at hc | rw [Bool.not_false] at hc); first | (with_reducible replace hc := tTT hc); clear hc | (with_reducible replace hc := tFF hc); clear hc | (have hp := hc; try simp only [decide_eq_true_eq, decide_eq_false_iff_not, bA, bB, bC, bD, bE, bF, bG, bH] at hp))) <;> try simp only [push_cast, seval, *]))
    | (refine Kn.go hK ?_; clear hK K)
    | refine Kn.go (by assumption) ?_
    | (intro n hn; (try simp only [upd_none2, join_none_iff, ite_none, ne_eq] at hn); (try simp only [push_cast, seval, *]))
    | (intro hc)
    | (apply ER_blk; (case hp => rfl); (case hb => (simp only [push_cast, seval]; rfl)); (case hd => (simp only [push_cast, seval]; done)); (case h => (intro hc; simp only [push_cast, seval, *]; rfl)); simp only [push_cast, seval, *])
    | fail)
      exact ⟨_, _, Weak.imp (fun F => nil_tab3) (unhid hfl _ _ _ _ hn.2), rfl, rfl⟩
  · rintro T ⟨hj, hrT, hTl⟩
    rw [List.drop_length] at hj
    simp only [rjGo, Prod.mk.injEq] at hj
    obtain ⟨rfl, rfl⟩ := hj
    clear hfl
    have hfl : ∀ x y, Heap.le H (upd (upd Gs n6 x) n4 y) := fun x y q z hq => by
      have c4 : ¬ q = n4 := by rintro rfl; rw [hH4] at hq; cases hq
      have hz := unhid hle q z hq
      have c6 : ¬ q = n6 := by rintro rfl; rw [hG6] at hz; cases hz
      rw [upd_ne c4, upd_ne c6]; exact hz
    replace hfl := Lib.hid hfl
    repeat' (first
    | refine AW_seq_kn fun K hK => ?_
    | refine AW_block ?_
    | (refine does_call rfl rfl ?_; simp only [push_cast, seval, *]; refine ACall.monoP (rkey_p ⟨_, _, _, _⟩ _) ?_; (try simp only [push_cast, seval, *]))
    | (refine does_call rfl rfl ?_; simp only [push_cast, seval, *]; refine ACall.monoP (rget_p _ (by assumption) ⟨_, _, _⟩ _) ?_; (try simp only [push_cast, seval, *]))
    | (refine does_call rfl rfl ?_; simp only [push_cast, seval, *]; refine ACall.monoP (copy12_p _ (by assumption) _) ?_; (try simp only [push_cast, seval, *]))
    | ((first
      | refine AW_region_draw (id := 7) E0 (fun f => [].contains f) dLUKr0 dAUKr0 mixed (by kernel_rfl) ?_
      | refine AW_region_draw (id := 9) E0 (fun f => [].contains f) dLUKr1 dAUKr1 mixed (by kernel_rfl) ?_
      | refine AW_region E0 ?_ | refine AW_ret ?_ | refine AW_exit ?_ | refine AW_skip ?_ | unfold retQ); try simp only [push_cast, seval, *])
    | ((first | (apply AW_cond; (case hc => (simp only [push_cast, seval]; rfl))) | (apply ER_guard; (case hb => (simp only [push_cast, seval]; rfl)))); all_goals ((intro hc; first | (exfalso; simp only [push_cast, seval, *] at hc; done) | (exact absurd hc (by decide)) | ((try first | rw [Bool.not_true] at hc | rw [Bool.not_false] at hc); first | (with_reducible replace hc := tTT hc); clear hc | (with_reducible replace hc := tFF hc); clear hc | (have hp := hc; try simp only [decide_eq_true_eq, decide_eq_false_iff_not, bA, bB, bC, bD, bE, bF, bG, bH] at hp))) <;> try simp only [push_cast, seval, *]))
    | (refine Kn.go hK ?_; clear hK K)
    | refine Kn.go (by assumption) ?_
    | (intro n hn; (try simp only [upd_none2, join_none_iff, ite_none, ne_eq] at hn); (try simp only [push_cast, seval, *]))
    | (intro hc)
    | (apply ER_blk; (case hp => rfl); (case hb => (simp only [push_cast, seval]; rfl)); (case hd => (simp only [push_cast, seval]; done)); (case h => (intro hc; simp only [push_cast, seval, *]; rfl)); simp only [push_cast, seval, *])
    | fail)
    exact ⟨_, _, Weak.less (unhid hfl _ _), rfl, rfl⟩
end Go.Proofs.Ytmkncbddjnaklaa
