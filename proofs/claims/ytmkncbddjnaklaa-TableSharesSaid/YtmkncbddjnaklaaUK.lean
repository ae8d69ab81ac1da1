/- Walks: Join. -/
import Derived.Test.YtmkncbddjnaklaaUK0
namespace Go.Proofs.Ytmkncbddjnaklaa
open Go.RowKit
open Nat renaming reduceEqDiff → nA, reduceLT → nB, reduceLeDiff → nC, reduceAdd → nD, reduceMul → nE, reduceSub → nF, reduceBEq → nG
open Int renaming reduceToNat → iA, reduceLT → iB, reduceLE → iC, reduceEq → iD
open Bool renaming and_eq_true → bA, or_eq_true → bB, or_eq_false_iff → bC, and_eq_false_iff → bD, not_eq_true' → bE, not_eq_false' → bF, not_true → bG, not_false → bH
set_option linter.all false
set_option maxHeartbeats 4000000
attribute [local irreducible] AW Does ACall tE tS tB tZ

def joinD (a b : List KC) : List KC × Int := if tOk b = false then ([], 220) else if tOk a = false then ([], 220) else if (joinA a b).2 = 0 then joinA a b else ([], (joinA a b).2)
theorem Join_o (a b : List KC) (ha : a.length ≤ 9000) (hb : b.length ≤ 90000) (H : Heap) :
    ACall Try.prog 45 [.g [.l 4 (a.map KC.av)], .g [.l 4 (b.map KC.av)]] H fun q H' => ∃ y, q = .t [.g [y], .c (.int .i64 (joinD a b).2)] ∧ OwnL H' y 80 4 ((joinD a b).1.map KC.av) H := by
  have hD : joinD a b = if tOk b = false then ([], 220) else if tOk a = false then ([], 220) else if (joinA a b).2 = 0 then joinA a b else ([], (joinA a b).2) := rfl
  have hch := tcheck_p b (by unfold maxLen; omega)
  have hno := with_no a (by unfold maxLen; omega)
  have hj1 := fun (hr : Rise a) mb nb Q B x => join1_a b hb a ha hr mb nb Q B x
  have hri : tOk a = true → Rise a := tOk_rise
  generalize joinD a b = T at *
  obtain ⟨T1, T2⟩ := T
  generalize joinA a b = S at *
  obtain ⟨S, E⟩ := S
  simp only at hD hj1
  cases hob : tOk b
  · rw [hob] at hch hD
    simp only [Bool.false_eq_true, if_false, if_true, vE220, Prod.mk.injEq] at hch hD
    obtain ⟨rfl, rfl⟩ := hD
    clear hno hj1 hri
    refine ACall_of' Try.func45 rfl (Ent_of Try.func45 (by kernel_rfl) rfl) (by simp [Try.ntmps45]) ?_; simp only [Try.ntmps45, Try.results45]
    repeat' (first
    | refine AW_seq_kn fun K hK => ?_
    | refine AW_block ?_
    | (refine does_call rfl rfl ?_; simp only [push_cast, seval, *]; refine ACall.monoP (hch _) ?_; (try simp only [push_cast, seval, *]))
    | ((first
      | refine AW_region E0 ?_ | refine AW_ret ?_ | refine AW_exit ?_ | refine AW_skip ?_ | unfold retQ); try simp only [push_cast, seval, *])
    | (apply AW_cond; (case hc => (simp only [push_cast, seval]; rfl)); all_goals (intro hc; first | (exfalso; simp only [push_cast, seval, *] at hc; done) | (exact absurd hc (by decide)) | ((try first | rw [Bool.not_true] at hc | rw [Bool.not_false] at hc); first | (with_reducible replace hc := tTT hc); clear hc | (with_reducible replace hc := tFF hc); clear hc | (have hp := hc; try simp only [decide_eq_true_eq, decide_eq_false_iff_not, bA, bB, bC, bD, bE, bF, bG, bH] at hp))))
    | (refine Kn.go hK ?_; clear hK K)
    | refine Kn.go (by assumption) ?_
    | (intro n hn; (try simp only [upd_none2, join_none_iff, ite_none, ne_eq] at hn); (try simp only [push_cast, seval, *]))
    | (intro hc)
    | fail)
    exact ⟨_, H, Weak.less (by (simp only [push_cast, seval, *])), _, rfl, .inl ⟨⟨_, rfl⟩, rfl, rfl⟩⟩
  rw [hob] at hch hD
  simp only [if_true, vE0, Bool.true_eq_false, if_false] at hch hD
  clear hob
  replace hno := Lib.hid hno
  replace hj1 := Lib.hid hj1
  replace hri := Lib.hid hri
  replace hD := Lib.hid hD
  refine ACall_of' Try.func45 rfl (Ent_of Try.func45 (by kernel_rfl) rfl) (by simp [Try.ntmps45]) ?_; simp only [Try.ntmps45, Try.results45]
  repeat' (first
    | refine AW_seq_kn fun K hK => ?_
    | refine AW_block ?_
    | (refine does_call rfl rfl ?_; simp only [push_cast, seval, *]; refine ACall.monoP (hch _) ?_; (try simp only [push_cast, seval, *]))
    | ((first
      | refine AW_region E0 ?_ | refine AW_ret ?_ | refine AW_exit ?_ | refine AW_skip ?_ | unfold retQ); try simp only [push_cast, seval, *])
    | (apply AW_cond; (case hc => (simp only [push_cast, seval]; rfl)); all_goals (intro hc; first | (exfalso; simp only [push_cast, seval, *] at hc; done) | (exact absurd hc (by decide)) | ((try first | rw [Bool.not_true] at hc | rw [Bool.not_false] at hc); first | (with_reducible replace hc := tTT hc); clear hc | (with_reducible replace hc := tFF hc); clear hc | (have hp := hc; try simp only [decide_eq_true_eq, decide_eq_false_iff_not, bA, bB, bC, bD, bE, bF, bG, bH] at hp))))
    | (refine Kn.go hK ?_; clear hK K)
    | refine Kn.go (by assumption) ?_
    | (intro n hn; (try simp only [upd_none2, join_none_iff, ite_none, ne_eq] at hn); (try simp only [push_cast, seval, *]))
    | (intro hc)
    | fail)
  rename_i n2 h2 n3 h3
  generalize n = n4 at *
  obtain ⟨Hs, hHs⟩ : ∃ Hs : Heap, Hs = upd (upd (upd H n2 (tbB a)) n3 (tbB b)) n4 (.r 49 1 1 [[.c (.slice none 0 0)]]) := ⟨_, rfl⟩
  have g3 : Hs n3 = some (tbB b) := by rw [hHs]; simp only [push_cast, seval, *]
  have g4 : Hs n4 = some (.r 49 1 1 [[.c (.slice none 0 0)]]) := by rw [hHs]; exact upd_same _ _ _
  have hm4 : H n4 = none := hn.2.2
  have hle : Heap.le H Hs := by rw [hHs]; simp only [tbB]; (repeat' (first | exact Heap.le_refl _ | refine hle_upd2 ?_ _ _ | (refine Heap.le_new ?_ ?_; rotate_left 1; focus (first | assumption | (simp only [upd_none2, upd_get, ne_eq, push_cast, seval, *]; done) | (simp [upd_get, *]; done)))))
  simp only [tbB] at hHs
  rw [← hHs]
  clear hHs h2 h3 hn hch
  replace hle := Lib.hid hle
  cases hok : tOk a
  · obtain ⟨rfl, rfl⟩ : T1 = [] ∧ T2 = 220 := by
      have h := unhid hD; rw [hok, if_pos rfl] at h; simpa using h
    clear hD hj1 hri
    refine does_call rfl rfl ?_
    simp only [push_cast, seval, *]
    refine ACall.mono (unhid hno hok _ _ _) ?_
    rintro _ _ ⟨rfl, e2⟩
    have e3 := e2.symm; clear e2; subst e3
    clear hno
    (try simp only [push_cast, seval, *])
    repeat' (first
    | refine AW_seq_kn fun K hK => ?_
    | refine AW_block ?_
    | ((first
      | refine AW_region E0 ?_ | refine AW_ret ?_ | refine AW_exit ?_ | refine AW_skip ?_ | unfold retQ); try simp only [push_cast, seval, *])
    | (apply AW_cond; (case hc => (simp only [push_cast, seval]; rfl)); all_goals (intro hc; first | (exfalso; simp only [push_cast, seval, *] at hc; done) | (exact absurd hc (by decide)) | ((try first | rw [Bool.not_true] at hc | rw [Bool.not_false] at hc); first | (with_reducible replace hc := tTT hc); clear hc | (with_reducible replace hc := tFF hc); clear hc | (have hp := hc; try simp only [decide_eq_true_eq, decide_eq_false_iff_not, bA, bB, bC, bD, bE, bF, bG, bH] at hp))))
    | (refine Kn.go hK ?_; clear hK K)
    | refine Kn.go (by assumption) ?_
    | (intro n hn; (try simp only [upd_none2, join_none_iff, ite_none, ne_eq] at hn); (try simp only [push_cast, seval, *]))
    | (intro hc)
    | fail)
    refine ⟨_, H, Weak.less ?_, _, rfl, .inl ⟨⟨_, rfl⟩, rfl, rfl⟩⟩
    intro q b hq
    have c4 : ¬ q = n4 := by rintro rfl; rw [hm4] at hq; cases hq
    rw [upd_ne c4]; exact unhid hle q b hq
  · refine does_call rfl rfl ?_
    simp only [push_cast, seval, *]
    refine ACall.mono (with_g a (by omega) hok 84 [.p n3 1 0 0] Hs E S (fun G => Heap.le Hs G) (fun G => Heap.le Hs G) (Heap.le_refl _) (fun G R x B nb hG hap hnb hown => (unhid hj1 (unhid hri hok) n3 nb (join G R) B x hnb (join_left (hG _ _ g3)) hown).mono fun q H' h => ⟨h.1, let ⟨x', hx'⟩ := h.2; if he : E = 0 then .inl ⟨he, x', G, hG, hap, hnb, hx'⟩ else .inr ⟨he, G, hG, hap, Heap.le_trans (le_upd_new hnb) hx'.le⟩⟩)) ?_
    rintro q H' ⟨y, G', rfl, hG', hpost⟩
    clear hno hj1 hri
    rcases hpost with ⟨rfl, ho⟩ | ⟨he, rfl, rfl⟩
    · obtain ⟨rfl, rfl⟩ : T1 = S ∧ T2 = 0 := by
        have h := unhid hD; rw [hok, if_neg (by simp), if_pos rfl] at h; simpa using h
      have k4 := ho.get (hG' _ _ g4)
      have hycs := ho.cs
      have ht := ho.turn (hG' _ _ g4) (.r 49 1 1 [[y]])
      obtain ⟨H2, l1, l2⟩ := ht.cut (K := H) (fun q b hq => by
        have c4 : ¬ q = n4 := by rintro rfl; rw [hm4] at hq; cases hq
        rw [upd_ne c4]; exact hG' _ _ (unhid hle q b hq))
      clear ho ht hG' hD
      replace l1 := Lib.hid l1
      replace l2 := Lib.hid l2
      (try simp only [push_cast, seval, *])
      repeat' (first
    | refine AW_seq_kn fun K hK => ?_
    | refine AW_block ?_
    | ((first
      | refine AW_region E0 ?_ | refine AW_ret ?_ | refine AW_exit ?_ | refine AW_skip ?_ | unfold retQ); try simp only [push_cast, seval, *])
    | (apply AW_cond; (case hc => (simp only [push_cast, seval]; rfl)); all_goals (intro hc; first | (exfalso; simp only [push_cast, seval, *] at hc; done) | (exact absurd hc (by decide)) | ((try first | rw [Bool.not_true] at hc | rw [Bool.not_false] at hc); first | (with_reducible replace hc := tTT hc); clear hc | (with_reducible replace hc := tFF hc); clear hc | (have hp := hc; try simp only [decide_eq_true_eq, decide_eq_false_iff_not, bA, bB, bC, bD, bE, bF, bG, bH] at hp))))
    | (refine Kn.go hK ?_; clear hK K)
    | refine Kn.go (by assumption) ?_
    | (intro n hn; (try simp only [upd_none2, join_none_iff, ite_none, ne_eq] at hn); (try simp only [push_cast, seval, *]))
    | (intro hc)
    | fail)
      exact ⟨_, H2, Weak.less (unhid l1), y, rfl, unhid l2⟩
    · obtain ⟨rfl, rfl⟩ : T1 = [] ∧ T2 = E := by
        have h := unhid hD; rw [hok, if_neg (by simp), if_neg he] at h; simpa using h
      have k4 := hG' _ _ g4
      have hl4 : ∀ k, Heap.le H (upd H' n4 k) := fun k q b hq => by
        have c4 : ¬ q = n4 := by rintro rfl; rw [hm4] at hq; cases hq
        rw [upd_ne c4]; exact hG' _ _ (unhid hle q b hq)
      clear hG' hD
      replace hl4 := Lib.hid hl4
      (try simp only [push_cast, seval, *])
      repeat' (first
    | refine AW_seq_kn fun K hK => ?_
    | refine AW_block ?_
    | ((first
      | refine AW_region E0 ?_ | refine AW_ret ?_ | refine AW_exit ?_ | refine AW_skip ?_ | unfold retQ); try simp only [push_cast, seval, *])
    | (apply AW_cond; (case hc => (simp only [push_cast, seval]; rfl)); all_goals (intro hc; first | (exfalso; simp only [push_cast, seval, *] at hc; done) | (exact absurd hc (by decide)) | ((try first | rw [Bool.not_true] at hc | rw [Bool.not_false] at hc); first | (with_reducible replace hc := tTT hc); clear hc | (with_reducible replace hc := tFF hc); clear hc | (have hp := hc; try simp only [decide_eq_true_eq, decide_eq_false_iff_not, bA, bB, bC, bD, bE, bF, bG, bH] at hp))))
    | (refine Kn.go hK ?_; clear hK K)
    | refine Kn.go (by assumption) ?_
    | (intro n hn; (try simp only [upd_none2, join_none_iff, ite_none, ne_eq] at hn); (try simp only [push_cast, seval, *]))
    | (intro hc)
    | fail)
      exact ⟨_, H, Weak.less (unhid hl4 _), _, rfl, .inl ⟨⟨_, rfl⟩, rfl, rfl⟩⟩
end Go.Proofs.Ytmkncbddjnaklaa
