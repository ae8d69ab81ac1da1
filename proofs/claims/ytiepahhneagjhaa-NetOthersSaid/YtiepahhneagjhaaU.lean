/- The statement that nothing else is changed, walked. -/
import Derived.Test.YtiepahhneagjhaaT
import Derived.Test.YtiepahhneagjhaaM
import Derived.Test.YtiepahhneagjhaaC
namespace Go.Proofs.Ytiepahhneagjhaa
open Go.RowKit
open Nat renaming reduceEqDiff → nA, reduceLT → nB, reduceLeDiff → nC, reduceAdd → nD, reduceMul → nE, reduceSub → nF, reduceBEq → nG
open Int renaming reduceToNat → iA, reduceLT → iB, reduceLE → iC, reduceEq → iD
open Bool renaming and_eq_true → bA, or_eq_true → bB, or_eq_false_iff → bC, and_eq_false_iff → bD, not_eq_true' → bE, not_eq_false' → bF, not_true → bG, not_false → bH
set_option linter.all false
set_option maxHeartbeats 4000000
attribute [local irreducible] AW Does ACall tE tS tB tZ

theorem idxL {α : Type} (enc : α → List AV) (he : ∀ x, (enc x).length = 4) (l : List α) (hl : l.length ≤ maxLen) (p : α → Bool) (gf : FuncId) (caps : List AV) (H : Heap)
    (hf : ∀ x ∈ l, ACall Try.prog gf ([.g (enc x)] ++ caps) H fun r H' => r = .c (.bool (p x)) ∧ H' = H) :
    ACall Try.prog 23 [.l 4 (l.map enc), .f (.func gf) [] caps] H fun r H' => r = .c (.int .i64 (idxS p l)) ∧ H' = H := by
  refine ACall_of' Try.func23 rfl (Ent_of Try.func23 (by kernel_rfl) rfl) (by simp [Try.ntmps23]) ?_; simp only [Try.ntmps23, Try.results23]
  repeat' (first
    | refine AW_seq_kn fun K hK => ?_
    | refine AW_block ?_
    | ((first
      | refine AW_region E0 ?_ | refine AW_ret ?_ | refine AW_exit ?_ | refine AW_skip ?_ | unfold retQ); try simp only [push_cast, reduceIte, nA, nB, nC, reduceCtorEq, nD, nE, nF, nG, iA, iB, iC, iD, *])
    | (apply AW_cond; (case hc => (simp only [push_cast, reduceIte, nA, nB, nC, reduceCtorEq, nD, nE, nF, nG, iA, iB, iC, iD]; rfl)); all_goals (intro hc; first | (exfalso; simp only [push_cast, reduceIte, nA, nB, nC, reduceCtorEq, nD, nE, nF, nG, iA, iB, iC, iD, *] at hc; done) | (exact absurd hc (by decide)) | (with_reducible (have hcc : true = true := hc); clear hcc hc) | (with_reducible (have hcc : false = false := hc); clear hcc hc) | ((try simp only [Bool.not_true, Bool.not_false] at hc); (first | (with_reducible (have hcc : true = true := hc); clear hcc hc) | (with_reducible (have hcc : false = false := hc); clear hcc hc) | (have hp := hc; (try simp only [decide_eq_true_eq, decide_eq_false_iff_not, bA, bB, bC, bD, bE, bF, bG, bH] at hp))))))
    | (refine Kn.go hK ?_; clear hK K)
    | refine Kn.go (by assumption) ?_
    | (intro n hn; (try simp only [upd_none2, join_none_iff, ite_none, ne_eq] at hn); (try simp only [push_cast, reduceIte, nA, nB, nC, reduceCtorEq, nD, nE, nF, nG, iA, iB, iC, iD, *]))
    | (intro hc)
    | fail)
  refine AW_loopS (fun k : Nat => k ≤ l.length ∧ ∀ j y, j < k → l[j]? = some y → p y = false) (fun k => [(0, .l 4 (l.map enc)), (1, .f (.func gf) [] caps), (7, .c (.int .i64 l.length)), (8, .c (.int .i64 k))]) (fun _ => H) (fun k => l.length - k) 0 ⟨Nat.zero_le _, fun j y hj => by omega⟩ ?_ (Heap.le_refl _) ?_
  · simp only [push_cast, reduceIte, nA, nB, nC, reduceCtorEq, nD, nE, nF, nG, iA, iB, iC, iD, *]
  · rintro k ⟨hk, hno⟩
    unfold maxLen at hl
    by_cases hlt : k < l.length
    · have hx := List.getElem?_eq_getElem hlt
      generalize l[k] = x at hx
      have hlt' : (k : Int) < l.length := by omega
      have htk : List.take 4 (enc x) = enc x := List.take_of_length_le (Nat.le_of_eq (he x))
      have hex := he x
      have hwk : IntKind.i64.wrap ((k : Int) + 1) = (k : Int) + 1 := wrap_i64 (by omega) (by omega)
      have hcall := hf x (List.mem_of_getElem? hx)
      simp only [push_cast, reduceIte, nA, nB, nC, reduceCtorEq, nD, nE, nF, nG, iA, iB, iC, iD] at hcall
      cases hpx : p x
      · rw [hpx] at hcall
        repeat' (first
    | refine AW_seq_kn fun K hK => ?_
    | refine AW_block ?_
    | (refine does_call_f rfl (by simp only [push_cast, reduceIte, nA, nB, nC, reduceCtorEq, nD, nE, nF, nG, iA, iB, iC, iD]; rfl) ?_; simp only [push_cast, reduceIte, nA, nB, nC, reduceCtorEq, nD, nE, nF, nG, iA, iB, iC, iD, *]; refine hcall.mono ?_; (rintro _ _ ⟨rfl, e2⟩; have e3 := e2.symm; clear e2; subst e3); (try simp only [push_cast, reduceIte, nA, nB, nC, reduceCtorEq, nD, nE, nF, nG, iA, iB, iC, iD, *]))
    | ((first
      | refine AW_region E0 ?_ | refine AW_ret ?_ | refine AW_exit ?_ | refine AW_skip ?_ | unfold retQ); try simp only [push_cast, reduceIte, nA, nB, nC, reduceCtorEq, nD, nE, nF, nG, iA, iB, iC, iD, *])
    | (apply AW_cond; (case hc => (simp only [push_cast, reduceIte, nA, nB, nC, reduceCtorEq, nD, nE, nF, nG, iA, iB, iC, iD]; rfl)); all_goals (intro hc; first | (exfalso; simp only [push_cast, reduceIte, nA, nB, nC, reduceCtorEq, nD, nE, nF, nG, iA, iB, iC, iD, *] at hc; done) | (exact absurd hc (by decide)) | (with_reducible (have hcc : true = true := hc); clear hcc hc) | (with_reducible (have hcc : false = false := hc); clear hcc hc) | ((try simp only [Bool.not_true, Bool.not_false] at hc); (first | (with_reducible (have hcc : true = true := hc); clear hcc hc) | (with_reducible (have hcc : false = false := hc); clear hcc hc) | (have hp := hc; (try simp only [decide_eq_true_eq, decide_eq_false_iff_not, bA, bB, bC, bD, bE, bF, bG, bH] at hp))))))
    | (refine Kn.go hK ?_; clear hK K)
    | refine Kn.go (by assumption) ?_
    | (intro n hn; (try simp only [upd_none2, join_none_iff, ite_none, ne_eq] at hn); (try simp only [push_cast, reduceIte, nA, nB, nC, reduceCtorEq, nD, nE, nF, nG, iA, iB, iC, iD, *]))
    | (intro hc)
    | fail)
        refine ⟨k + 1, ⟨by omega, fun j y hj hy => ?_⟩, by simp only [push_cast, reduceIte, nA, nB, nC, reduceCtorEq, nD, nE, nF, nG, iA, iB, iC, iD, *], by omega⟩
        by_cases e : j = k
        · subst e; rw [hx] at hy; cases hy; exact hpx
        · exact hno j y (by omega) hy
      · rw [hpx] at hcall
        repeat' (first
    | refine AW_seq_kn fun K hK => ?_
    | refine AW_block ?_
    | (refine does_call_f rfl (by simp only [push_cast, reduceIte, nA, nB, nC, reduceCtorEq, nD, nE, nF, nG, iA, iB, iC, iD]; rfl) ?_; simp only [push_cast, reduceIte, nA, nB, nC, reduceCtorEq, nD, nE, nF, nG, iA, iB, iC, iD, *]; refine hcall.mono ?_; (rintro _ _ ⟨rfl, e2⟩; have e3 := e2.symm; clear e2; subst e3); (try simp only [push_cast, reduceIte, nA, nB, nC, reduceCtorEq, nD, nE, nF, nG, iA, iB, iC, iD, *]))
    | ((first
      | refine AW_region E0 ?_ | refine AW_ret ?_ | refine AW_exit ?_ | refine AW_skip ?_ | unfold retQ); try simp only [push_cast, reduceIte, nA, nB, nC, reduceCtorEq, nD, nE, nF, nG, iA, iB, iC, iD, *])
    | (apply AW_cond; (case hc => (simp only [push_cast, reduceIte, nA, nB, nC, reduceCtorEq, nD, nE, nF, nG, iA, iB, iC, iD]; rfl)); all_goals (intro hc; first | (exfalso; simp only [push_cast, reduceIte, nA, nB, nC, reduceCtorEq, nD, nE, nF, nG, iA, iB, iC, iD, *] at hc; done) | (exact absurd hc (by decide)) | (with_reducible (have hcc : true = true := hc); clear hcc hc) | (with_reducible (have hcc : false = false := hc); clear hcc hc) | ((try simp only [Bool.not_true, Bool.not_false] at hc); (first | (with_reducible (have hcc : true = true := hc); clear hcc hc) | (with_reducible (have hcc : false = false := hc); clear hcc hc) | (have hp := hc; (try simp only [decide_eq_true_eq, decide_eq_false_iff_not, bA, bB, bC, bD, bE, bF, bG, bH] at hp))))))
    | (refine Kn.go hK ?_; clear hK K)
    | refine Kn.go (by assumption) ?_
    | (intro n hn; (try simp only [upd_none2, join_none_iff, ite_none, ne_eq] at hn); (try simp only [push_cast, reduceIte, nA, nB, nC, reduceCtorEq, nD, nE, nF, nG, iA, iB, iC, iD, *]))
    | (intro hc)
    | fail)
        exact ⟨_, _, Weak.refl _ _, by rw [idxS_some hx hpx hno], rfl⟩
    · have hlt' : ¬ (k : Int) < l.length := by omega
      repeat' (first
    | refine AW_seq_kn fun K hK => ?_
    | refine AW_block ?_
    | ((first
      | refine AW_region E0 ?_ | refine AW_ret ?_ | refine AW_exit ?_ | refine AW_skip ?_ | unfold retQ); try simp only [push_cast, reduceIte, nA, nB, nC, reduceCtorEq, nD, nE, nF, nG, iA, iB, iC, iD, *])
    | (apply AW_cond; (case hc => (simp only [push_cast, reduceIte, nA, nB, nC, reduceCtorEq, nD, nE, nF, nG, iA, iB, iC, iD]; rfl)); all_goals (intro hc; first | (exfalso; simp only [push_cast, reduceIte, nA, nB, nC, reduceCtorEq, nD, nE, nF, nG, iA, iB, iC, iD, *] at hc; done) | (exact absurd hc (by decide)) | (with_reducible (have hcc : true = true := hc); clear hcc hc) | (with_reducible (have hcc : false = false := hc); clear hcc hc) | ((try simp only [Bool.not_true, Bool.not_false] at hc); (first | (with_reducible (have hcc : true = true := hc); clear hcc hc) | (with_reducible (have hcc : false = false := hc); clear hcc hc) | (have hp := hc; (try simp only [decide_eq_true_eq, decide_eq_false_iff_not, bA, bB, bC, bD, bE, bF, bG, bH] at hp))))))
    | (refine Kn.go hK ?_; clear hK K)
    | refine Kn.go (by assumption) ?_
    | (intro n hn; (try simp only [upd_none2, join_none_iff, ite_none, ne_eq] at hn); (try simp only [push_cast, reduceIte, nA, nB, nC, reduceCtorEq, nD, nE, nF, nG, iA, iB, iC, iD, *]))
    | (intro hc)
    | fail)
      have hno' : ∀ (j : Nat) (y : α), l[j]? = some y → p y = false := fun j y hy => by
        have := (List.getElem?_eq_some_iff.1 hy).1
        exact hno j y (by omega) hy
      exact ⟨_, _, Weak.refl _ _, by rw [idxS_none hno'], rfl⟩

theorem others1_a (x p : Pk) (q1 : Nat) (G : Heap) (h : G q1 = some (bxP p)) : ACall Try.prog 24 [.g (Pk.av x), .p q1 4 0 0] G fun r H' => r = .c (.bool (decide (x.num = p.num))) ∧ H' = G := by
  have hne := ne_old h
  refine ACall_of' Try.func24 rfl (Ent_of Try.func24 (by kernel_rfl) rfl) (by simp [Try.ntmps24]) ?_; simp only [Try.ntmps24, Try.results24]
  repeat' (first
    | refine AW_seq_kn fun K hK => ?_
    | refine AW_block ?_
    | ((first
      | refine AW_region E0 ?_ | refine AW_ret ?_ | refine AW_exit ?_ | refine AW_skip ?_ | unfold retQ); try simp only [push_cast, reduceIte, nA, nB, nC, reduceCtorEq, nD, nE, nF, nG, iA, iB, iC, iD, *])
    | (apply AW_cond; (case hc => (simp only [push_cast, reduceIte, nA, nB, nC, reduceCtorEq, nD, nE, nF, nG, iA, iB, iC, iD]; rfl)); all_goals (intro hc; first | (exfalso; simp only [push_cast, reduceIte, nA, nB, nC, reduceCtorEq, nD, nE, nF, nG, iA, iB, iC, iD, *] at hc; done) | (exact absurd hc (by decide)) | (with_reducible (have hcc : true = true := hc); clear hcc hc) | (with_reducible (have hcc : false = false := hc); clear hcc hc) | ((try simp only [Bool.not_true, Bool.not_false] at hc); (first | (with_reducible (have hcc : true = true := hc); clear hcc hc) | (with_reducible (have hcc : false = false := hc); clear hcc hc) | (have hp := hc; (try simp only [decide_eq_true_eq, decide_eq_false_iff_not, bA, bB, bC, bD, bE, bF, bG, bH] at hp))))))
    | (refine Kn.go hK ?_; clear hK K)
    | refine Kn.go (by assumption) ?_
    | (intro n hn; (try simp only [upd_none2, join_none_iff, ite_none, ne_eq] at hn); (try simp only [push_cast, reduceIte, nA, nB, nC, reduceCtorEq, nD, nE, nF, nG, iA, iB, iC, iD, *]))
    | (intro hc)
    | fail)
  all_goals exact ⟨_, _, Weak.less (by (simp only [push_cast, reduceIte, nA, nB, nC, reduceCtorEq, nD, nE, nF, nG, iA, iB, iC, iD, *])), rfl, rfl⟩
set_option maxRecDepth 5000 in
theorem netOthers_a (n : Nt) (o : Op28) (hw : WN n) (hb : o.bs.length ≤ maxLen) (hoo : octs o.bs) (H : Heap) : ACall Try.prog 5 [.g (Nt.av n), .g (Op28.av o)] H fun r _ => r = .c (.bool true) := by
  have hsh := short28_p n hw.l hw.b
  have hsz := shL_sz n
  have hsl : (shN n).ps.length ≤ 61 := shL_len n.ps
  have hss : 0 ≤ (shN n).sent := hw.s
  have hos : ∀ p ∈ (shN n).ps, octs p.bs := fun p hp => by
    obtain ⟨q, hq, rfl⟩ := List.mem_map.1 hp
    exact (hw.o q (List.mem_of_mem_take hq)).take _
  generalize shN n = m at *
  have hch := check_p m (by unfold maxLen; omega)
  have hnu := num_p o m (by omega)
  have hru := run28_p o m hsz hss hb
  have hoth := fun (hok : nOk m = true) (he : (run28 o m).e = 0) (p : Pk) (hp : p ∈ m.ps) => others (o := o) hok he hp
  have hbad := run28_bad (o := o) (n := m)
  have hlen := run28_len o m
  have huk := uw_eq o.kd
  have hmod : ((uw o.kd : Nat) : Int).tmod 7 = (kind28 o : Int) := by rw [show (7 : Int) = ((7 : Nat) : Int) from rfl, tmod_nat]; rfl
  have hkc : kcut o = decide ((kind28 o : Int) = 6) := rfl
  have hgd : ∀ p, gone28 o m p = ((kcut o && (decide (p.fr = o.fr) || decide (p.to = o.fr))) || (!kcut o && decide (2 < (kind28 o : Int)) && decide (p.num = numO o m) && !(decide ((kind28 o : Int) < 5) && o.st))) := fun _ => rfl
  clear hw hsz hss hb
  generalize kind28 o = kd at *
  rw [hkc] at hgd
  clear hkc
  generalize numO o m = num at *
  generalize gone28 o m = gf at *
  generalize run28 o m = t at *
  obtain ⟨sent, l⟩ := n
  obtain ⟨ms, ml⟩ := m
  obtain ⟨okd, fr, to, at_, st, ot, bs⟩ := o
  obtain ⟨⟨ts, tl⟩, tnum, ⟨tp1, tp2, tp3, tp4⟩, tg, te⟩ := t
  simp only at hsl hos hoth hbad hlen huk hmod hgd
  generalize uw okd = uk at *
  simp only [Nt.av] at hsh hnu hru hch
  cases hok : nOk ⟨ms, ml⟩
  · rw [hok] at hch
    simp only [Bool.false_eq_true, if_false] at hch
    clear hru hnu hoth hbad hgd hok hos
    refine ACall_of' Try.func5 rfl (Ent_of Try.func5 (by kernel_rfl) rfl) (by simp [Try.ntmps5]) ?_; simp only [Try.ntmps5, Try.results5]
    repeat' (first
    | refine AW_seq_kn fun K hK => ?_
    | refine AW_block ?_
    | (refine does_call rfl rfl ?_; simp only [push_cast, reduceIte, nA, nB, nC, reduceCtorEq, nD, nE, nF, nG, iA, iB, iC, iD, *]; refine ACall.mono (hch _) ?_; (rintro _ _ ⟨rfl, e2⟩; have e3 := e2.symm; clear e2; subst e3); (try simp only [push_cast, reduceIte, nA, nB, nC, reduceCtorEq, nD, nE, nF, nG, iA, iB, iC, iD, *]))
    | (refine does_call rfl rfl ?_; simp only [push_cast, reduceIte, nA, nB, nC, reduceCtorEq, nD, nE, nF, nG, iA, iB, iC, iD, *]; refine ACall.mono (hsh _) ?_; (rintro _ _ ⟨rfl, e2⟩; have e3 := e2.symm; clear e2; subst e3); (try simp only [push_cast, reduceIte, nA, nB, nC, reduceCtorEq, nD, nE, nF, nG, iA, iB, iC, iD, *]))
    | (refine does_call rfl rfl ?_; simp only [push_cast, reduceIte, nA, nB, nC, reduceCtorEq, nD, nE, nF, nG, iA, iB, iC, iD, *]; refine ACall.mono (check_p ⟨_, _⟩ (by assumption) _) ?_; (rintro _ _ ⟨rfl, e2⟩; have e3 := e2.symm; clear e2; subst e3); (try simp only [push_cast, reduceIte, nA, nB, nC, reduceCtorEq, nD, nE, nF, nG, iA, iB, iC, iD, *]))
    | (refine does_call rfl rfl ?_; simp only [push_cast, reduceIte, nA, nB, nC, reduceCtorEq, nD, nE, nF, nG, iA, iB, iC, iD, *]; refine ACall.mono (num_p ⟨_, _, _, _, _, _, _⟩ ⟨_, _⟩ (by assumption) _) ?_; (rintro _ _ ⟨rfl, e2⟩; have e3 := e2.symm; clear e2; subst e3); (try simp only [push_cast, reduceIte, nA, nB, nC, reduceCtorEq, nD, nE, nF, nG, iA, iB, iC, iD, *]))
    | (refine does_call rfl rfl ?_; simp only [push_cast, reduceIte, nA, nB, nC, reduceCtorEq, nD, nE, nF, nG, iA, iB, iC, iD, *]; refine ACall.mono (wakes28_p _) ?_; (rintro _ _ ⟨rfl, e2⟩; have e3 := e2.symm; clear e2; subst e3); (try simp only [push_cast, reduceIte, nA, nB, nC, reduceCtorEq, nD, nE, nF, nG, iA, iB, iC, iD, *]))
    | (refine does_call rfl rfl ?_; simp only [push_cast, reduceIte, nA, nB, nC, reduceCtorEq, nD, nE, nF, nG, iA, iB, iC, iD, *]; refine ACall.mono (bytesEq_p _ _ (by assumption) (by assumption) _) ?_; (rintro _ _ ⟨rfl, e2⟩; have e3 := e2.symm; clear e2; subst e3); (try simp only [push_cast, reduceIte, nA, nB, nC, reduceCtorEq, nD, nE, nF, nG, iA, iB, iC, iD, *]))
    | ((first
      | refine AW_region E1 ?_ | refine AW_ret ?_ | refine AW_exit ?_ | refine AW_skip ?_ | unfold retQ); try simp only [push_cast, reduceIte, nA, nB, nC, reduceCtorEq, nD, nE, nF, nG, iA, iB, iC, iD, *])
    | (apply AW_cond; (case hc => (simp only [push_cast, reduceIte, nA, nB, nC, reduceCtorEq, nD, nE, nF, nG, iA, iB, iC, iD]; rfl)); all_goals (intro hc; first | (exfalso; simp only [push_cast, reduceIte, nA, nB, nC, reduceCtorEq, nD, nE, nF, nG, iA, iB, iC, iD, *] at hc; done) | (exact absurd hc (by decide)) | (with_reducible (have hcc : true = true := hc); clear hcc hc) | (with_reducible (have hcc : false = false := hc); clear hcc hc) | ((try simp only [Bool.not_true, Bool.not_false] at hc); (first | (with_reducible (have hcc : true = true := hc); clear hcc hc) | (with_reducible (have hcc : false = false := hc); clear hcc hc) | (have hp := hc; (try simp only [decide_eq_true_eq, decide_eq_false_iff_not, bA, bB, bC, bD, bE, bF, bG, bH] at hp))))))
    | (refine Kn.go hK ?_; clear hK K)
    | refine Kn.go (by assumption) ?_
    | (intro n hn; (try simp only [upd_none2, join_none_iff, ite_none, ne_eq] at hn); (try simp only [push_cast, reduceIte, nA, nB, nC, reduceCtorEq, nD, nE, nF, nG, iA, iB, iC, iD, *]))
    | (intro hc)
    | (apply ER_blk; (case hp => rfl); (case hb => (simp only [push_cast, reduceIte, nA, nB, nC, reduceCtorEq, nD, nE, nF, nG, iA, iB, iC, iD]; rfl)); (case hd => (simp only [push_cast, reduceIte, nA, nB, nC, reduceCtorEq, nD, nE, nF, nG, iA, iB, iC, iD]; done)); (case h => (intro hc; simp only [push_cast, reduceIte, nA, nB, nC, reduceCtorEq, nD, nE, nF, nG, iA, iB, iC, iD, *]; rfl)); simp only [push_cast, reduceIte, nA, nB, nC, reduceCtorEq, nD, nE, nF, nG, iA, iB, iC, iD, *])
    | (apply ER_guard; (case hb => (simp only [push_cast, reduceIte, nA, nB, nC, reduceCtorEq, nD, nE, nF, nG, iA, iB, iC, iD]; rfl)); all_goals ((intro hc; first | (exfalso; simp only [push_cast, reduceIte, nA, nB, nC, reduceCtorEq, nD, nE, nF, nG, iA, iB, iC, iD, *] at hc; done) | (exact absurd hc (by decide)) | (with_reducible (have hcc : true = true := hc); clear hcc hc) | (with_reducible (have hcc : false = false := hc); clear hcc hc) | ((try simp only [Bool.not_true, Bool.not_false] at hc); (first | (with_reducible (have hcc : true = true := hc); clear hcc hc) | (with_reducible (have hcc : false = false := hc); clear hcc hc) | (have hp := hc; (try simp only [decide_eq_true_eq, decide_eq_false_iff_not, bA, bB, bC, bD, bE, bF, bG, bH] at hp))))) <;> try simp only [push_cast, reduceIte, nA, nB, nC, reduceCtorEq, nD, nE, nF, nG, iA, iB, iC, iD, *]))
    | fail)
    exact ⟨_, _, Weak.refl _ _, rfl⟩
  rw [hok] at hch
  simp only [if_true] at hch
  replace hoth := hoth hok
  by_cases he : te = 0
  rotate_left
  · have hz := hbad he
    simp only [zNt, Nt.mk.injEq] at hz
    obtain ⟨rfl, rfl⟩ := hz
    clear hoth hbad hgd hok hos hlen
    simp only [Told28.av, Op28.av] at hru hnu
    refine ACall_of' Try.func5 rfl (Ent_of Try.func5 (by kernel_rfl) rfl) (by simp [Try.ntmps5]) ?_; simp only [Try.ntmps5, Try.results5]
    repeat' (first
    | refine AW_seq_kn fun K hK => ?_
    | refine AW_block ?_
    | (refine does_call rfl rfl ?_; simp only [push_cast, reduceIte, nA, nB, nC, reduceCtorEq, nD, nE, nF, nG, iA, iB, iC, iD, *]; refine ACall.mono (hch _) ?_; (rintro _ _ ⟨rfl, e2⟩; have e3 := e2.symm; clear e2; subst e3); (try simp only [push_cast, reduceIte, nA, nB, nC, reduceCtorEq, nD, nE, nF, nG, iA, iB, iC, iD, *]))
    | (refine does_call rfl rfl ?_; simp only [push_cast, reduceIte, nA, nB, nC, reduceCtorEq, nD, nE, nF, nG, iA, iB, iC, iD, *]; refine ACall.mono (hsh _) ?_; (rintro _ _ ⟨rfl, e2⟩; have e3 := e2.symm; clear e2; subst e3); (try simp only [push_cast, reduceIte, nA, nB, nC, reduceCtorEq, nD, nE, nF, nG, iA, iB, iC, iD, *]))
    | (refine does_call rfl rfl ?_; simp only [push_cast, reduceIte, nA, nB, nC, reduceCtorEq, nD, nE, nF, nG, iA, iB, iC, iD, *]; refine ACall.mono (hnu _) ?_; (rintro _ _ ⟨rfl, e2⟩; have e3 := e2.symm; clear e2; subst e3); (try simp only [push_cast, reduceIte, nA, nB, nC, reduceCtorEq, nD, nE, nF, nG, iA, iB, iC, iD, *]))
    | (refine does_call rfl rfl ?_; simp only [push_cast, reduceIte, nA, nB, nC, reduceCtorEq, nD, nE, nF, nG, iA, iB, iC, iD, *]; refine ACall.mono (hru _) ?_; (rintro _ _ ⟨rfl, e2⟩; have e3 := e2.symm; clear e2; subst e3); (try simp only [push_cast, reduceIte, nA, nB, nC, reduceCtorEq, nD, nE, nF, nG, iA, iB, iC, iD, *]))
    | (refine does_call rfl rfl ?_; simp only [push_cast, reduceIte, nA, nB, nC, reduceCtorEq, nD, nE, nF, nG, iA, iB, iC, iD, *]; refine ACall.mono (check_p ⟨_, _⟩ (by assumption) _) ?_; (rintro _ _ ⟨rfl, e2⟩; have e3 := e2.symm; clear e2; subst e3); (try simp only [push_cast, reduceIte, nA, nB, nC, reduceCtorEq, nD, nE, nF, nG, iA, iB, iC, iD, *]))
    | (refine does_call rfl rfl ?_; simp only [push_cast, reduceIte, nA, nB, nC, reduceCtorEq, nD, nE, nF, nG, iA, iB, iC, iD, *]; refine ACall.mono (num_p ⟨_, _, _, _, _, _, _⟩ ⟨_, _⟩ (by assumption) _) ?_; (rintro _ _ ⟨rfl, e2⟩; have e3 := e2.symm; clear e2; subst e3); (try simp only [push_cast, reduceIte, nA, nB, nC, reduceCtorEq, nD, nE, nF, nG, iA, iB, iC, iD, *]))
    | (refine does_call rfl rfl ?_; simp only [push_cast, reduceIte, nA, nB, nC, reduceCtorEq, nD, nE, nF, nG, iA, iB, iC, iD, *]; refine ACall.mono (wakes28_p _) ?_; (rintro _ _ ⟨rfl, e2⟩; have e3 := e2.symm; clear e2; subst e3); (try simp only [push_cast, reduceIte, nA, nB, nC, reduceCtorEq, nD, nE, nF, nG, iA, iB, iC, iD, *]))
    | (refine does_call rfl rfl ?_; simp only [push_cast, reduceIte, nA, nB, nC, reduceCtorEq, nD, nE, nF, nG, iA, iB, iC, iD, *]; refine ACall.mono (bytesEq_p _ _ (by assumption) (by assumption) _) ?_; (rintro _ _ ⟨rfl, e2⟩; have e3 := e2.symm; clear e2; subst e3); (try simp only [push_cast, reduceIte, nA, nB, nC, reduceCtorEq, nD, nE, nF, nG, iA, iB, iC, iD, *]))
    | ((first
      | refine AW_region E1 ?_ | refine AW_ret ?_ | refine AW_exit ?_ | refine AW_skip ?_ | unfold retQ); try simp only [push_cast, reduceIte, nA, nB, nC, reduceCtorEq, nD, nE, nF, nG, iA, iB, iC, iD, *])
    | (apply AW_cond; (case hc => (simp only [push_cast, reduceIte, nA, nB, nC, reduceCtorEq, nD, nE, nF, nG, iA, iB, iC, iD]; rfl)); all_goals (intro hc; first | (exfalso; simp only [push_cast, reduceIte, nA, nB, nC, reduceCtorEq, nD, nE, nF, nG, iA, iB, iC, iD, *] at hc; done) | (exact absurd hc (by decide)) | (with_reducible (have hcc : true = true := hc); clear hcc hc) | (with_reducible (have hcc : false = false := hc); clear hcc hc) | ((try simp only [Bool.not_true, Bool.not_false] at hc); (first | (with_reducible (have hcc : true = true := hc); clear hcc hc) | (with_reducible (have hcc : false = false := hc); clear hcc hc) | (have hp := hc; (try simp only [decide_eq_true_eq, decide_eq_false_iff_not, bA, bB, bC, bD, bE, bF, bG, bH] at hp))))))
    | (refine Kn.go hK ?_; clear hK K)
    | refine Kn.go (by assumption) ?_
    | (intro n hn; (try simp only [upd_none2, join_none_iff, ite_none, ne_eq] at hn); (try simp only [push_cast, reduceIte, nA, nB, nC, reduceCtorEq, nD, nE, nF, nG, iA, iB, iC, iD, *]))
    | (intro hc)
    | (apply ER_blk; (case hp => rfl); (case hb => (simp only [push_cast, reduceIte, nA, nB, nC, reduceCtorEq, nD, nE, nF, nG, iA, iB, iC, iD]; rfl)); (case hd => (simp only [push_cast, reduceIte, nA, nB, nC, reduceCtorEq, nD, nE, nF, nG, iA, iB, iC, iD]; done)); (case h => (intro hc; simp only [push_cast, reduceIte, nA, nB, nC, reduceCtorEq, nD, nE, nF, nG, iA, iB, iC, iD, *]; rfl)); simp only [push_cast, reduceIte, nA, nB, nC, reduceCtorEq, nD, nE, nF, nG, iA, iB, iC, iD, *])
    | (apply ER_guard; (case hb => (simp only [push_cast, reduceIte, nA, nB, nC, reduceCtorEq, nD, nE, nF, nG, iA, iB, iC, iD]; rfl)); all_goals ((intro hc; first | (exfalso; simp only [push_cast, reduceIte, nA, nB, nC, reduceCtorEq, nD, nE, nF, nG, iA, iB, iC, iD, *] at hc; done) | (exact absurd hc (by decide)) | (with_reducible (have hcc : true = true := hc); clear hcc hc) | (with_reducible (have hcc : false = false := hc); clear hcc hc) | ((try simp only [Bool.not_true, Bool.not_false] at hc); (first | (with_reducible (have hcc : true = true := hc); clear hcc hc) | (with_reducible (have hcc : false = false := hc); clear hcc hc) | (have hp := hc; (try simp only [decide_eq_true_eq, decide_eq_false_iff_not, bA, bB, bC, bD, bE, bF, bG, bH] at hp))))) <;> try simp only [push_cast, reduceIte, nA, nB, nC, reduceCtorEq, nD, nE, nF, nG, iA, iB, iC, iD, *]))
    | fail)
    exact ⟨_, _, Weak.refl _ _, rfl⟩
  subst he
  replace hoth := hoth rfl
  clear hbad hok
  simp only [Told28.av, Op28.av] at hru hnu
  replace hoth := Lib.hid hoth
  replace hgd := Lib.hid hgd
  replace hos := Lib.hid hos
  refine ACall_of' Try.func5 rfl (Ent_of Try.func5 (by kernel_rfl) rfl) (by simp [Try.ntmps5]) ?_; simp only [Try.ntmps5, Try.results5]
  repeat' (first
    | refine AW_seq_kn fun K hK => ?_
    | refine AW_block ?_
    | (refine does_call rfl rfl ?_; simp only [push_cast, reduceIte, nA, nB, nC, reduceCtorEq, nD, nE, nF, nG, iA, iB, iC, iD, *]; refine ACall.mono (hch _) ?_; (rintro _ _ ⟨rfl, e2⟩; have e3 := e2.symm; clear e2; subst e3); (try simp only [push_cast, reduceIte, nA, nB, nC, reduceCtorEq, nD, nE, nF, nG, iA, iB, iC, iD, *]))
    | (refine does_call rfl rfl ?_; simp only [push_cast, reduceIte, nA, nB, nC, reduceCtorEq, nD, nE, nF, nG, iA, iB, iC, iD, *]; refine ACall.mono (hsh _) ?_; (rintro _ _ ⟨rfl, e2⟩; have e3 := e2.symm; clear e2; subst e3); (try simp only [push_cast, reduceIte, nA, nB, nC, reduceCtorEq, nD, nE, nF, nG, iA, iB, iC, iD, *]))
    | (refine does_call rfl rfl ?_; simp only [push_cast, reduceIte, nA, nB, nC, reduceCtorEq, nD, nE, nF, nG, iA, iB, iC, iD, *]; refine ACall.mono (hnu _) ?_; (rintro _ _ ⟨rfl, e2⟩; have e3 := e2.symm; clear e2; subst e3); (try simp only [push_cast, reduceIte, nA, nB, nC, reduceCtorEq, nD, nE, nF, nG, iA, iB, iC, iD, *]))
    | (refine does_call rfl rfl ?_; simp only [push_cast, reduceIte, nA, nB, nC, reduceCtorEq, nD, nE, nF, nG, iA, iB, iC, iD, *]; refine ACall.mono (hru _) ?_; (rintro _ _ ⟨rfl, e2⟩; have e3 := e2.symm; clear e2; subst e3); (try simp only [push_cast, reduceIte, nA, nB, nC, reduceCtorEq, nD, nE, nF, nG, iA, iB, iC, iD, *]))
    | (refine does_call rfl rfl ?_; simp only [push_cast, reduceIte, nA, nB, nC, reduceCtorEq, nD, nE, nF, nG, iA, iB, iC, iD, *]; refine ACall.mono (check_p ⟨_, _⟩ (by assumption) _) ?_; (rintro _ _ ⟨rfl, e2⟩; have e3 := e2.symm; clear e2; subst e3); (try simp only [push_cast, reduceIte, nA, nB, nC, reduceCtorEq, nD, nE, nF, nG, iA, iB, iC, iD, *]))
    | (refine does_call rfl rfl ?_; simp only [push_cast, reduceIte, nA, nB, nC, reduceCtorEq, nD, nE, nF, nG, iA, iB, iC, iD, *]; refine ACall.mono (num_p ⟨_, _, _, _, _, _, _⟩ ⟨_, _⟩ (by assumption) _) ?_; (rintro _ _ ⟨rfl, e2⟩; have e3 := e2.symm; clear e2; subst e3); (try simp only [push_cast, reduceIte, nA, nB, nC, reduceCtorEq, nD, nE, nF, nG, iA, iB, iC, iD, *]))
    | (refine does_call rfl rfl ?_; simp only [push_cast, reduceIte, nA, nB, nC, reduceCtorEq, nD, nE, nF, nG, iA, iB, iC, iD, *]; refine ACall.mono (wakes28_p _) ?_; (rintro _ _ ⟨rfl, e2⟩; have e3 := e2.symm; clear e2; subst e3); (try simp only [push_cast, reduceIte, nA, nB, nC, reduceCtorEq, nD, nE, nF, nG, iA, iB, iC, iD, *]))
    | (refine does_call rfl rfl ?_; simp only [push_cast, reduceIte, nA, nB, nC, reduceCtorEq, nD, nE, nF, nG, iA, iB, iC, iD, *]; refine ACall.mono (bytesEq_p _ _ (by assumption) (by assumption) _) ?_; (rintro _ _ ⟨rfl, e2⟩; have e3 := e2.symm; clear e2; subst e3); (try simp only [push_cast, reduceIte, nA, nB, nC, reduceCtorEq, nD, nE, nF, nG, iA, iB, iC, iD, *]))
    | ((first
      | refine AW_region E1 ?_ | refine AW_ret ?_ | refine AW_exit ?_ | refine AW_skip ?_ | unfold retQ); try simp only [push_cast, reduceIte, nA, nB, nC, reduceCtorEq, nD, nE, nF, nG, iA, iB, iC, iD, *])
    | (apply AW_cond; (case hc => (simp only [push_cast, reduceIte, nA, nB, nC, reduceCtorEq, nD, nE, nF, nG, iA, iB, iC, iD]; rfl)); all_goals (intro hc; first | (exfalso; simp only [push_cast, reduceIte, nA, nB, nC, reduceCtorEq, nD, nE, nF, nG, iA, iB, iC, iD, *] at hc; done) | (exact absurd hc (by decide)) | (with_reducible (have hcc : true = true := hc); clear hcc hc) | (with_reducible (have hcc : false = false := hc); clear hcc hc) | ((try simp only [Bool.not_true, Bool.not_false] at hc); (first | (with_reducible (have hcc : true = true := hc); clear hcc hc) | (with_reducible (have hcc : false = false := hc); clear hcc hc) | (have hp := hc; (try simp only [decide_eq_true_eq, decide_eq_false_iff_not, bA, bB, bC, bD, bE, bF, bG, bH] at hp))))))
    | (refine Kn.go hK ?_; clear hK K)
    | refine Kn.go (by assumption) ?_
    | (intro n hn; (try simp only [upd_none2, join_none_iff, ite_none, ne_eq] at hn); (try simp only [push_cast, reduceIte, nA, nB, nC, reduceCtorEq, nD, nE, nF, nG, iA, iB, iC, iD, *]))
    | (intro hc)
    | (apply ER_blk; (case hp => rfl); (case hb => (simp only [push_cast, reduceIte, nA, nB, nC, reduceCtorEq, nD, nE, nF, nG, iA, iB, iC, iD]; rfl)); (case hd => (simp only [push_cast, reduceIte, nA, nB, nC, reduceCtorEq, nD, nE, nF, nG, iA, iB, iC, iD]; done)); (case h => (intro hc; simp only [push_cast, reduceIte, nA, nB, nC, reduceCtorEq, nD, nE, nF, nG, iA, iB, iC, iD, *]; rfl)); simp only [push_cast, reduceIte, nA, nB, nC, reduceCtorEq, nD, nE, nF, nG, iA, iB, iC, iD, *])
    | (apply ER_guard; (case hb => (simp only [push_cast, reduceIte, nA, nB, nC, reduceCtorEq, nD, nE, nF, nG, iA, iB, iC, iD]; rfl)); all_goals ((intro hc; first | (exfalso; simp only [push_cast, reduceIte, nA, nB, nC, reduceCtorEq, nD, nE, nF, nG, iA, iB, iC, iD, *] at hc; done) | (exact absurd hc (by decide)) | (with_reducible (have hcc : true = true := hc); clear hcc hc) | (with_reducible (have hcc : false = false := hc); clear hcc hc) | ((try simp only [Bool.not_true, Bool.not_false] at hc); (first | (with_reducible (have hcc : true = true := hc); clear hcc hc) | (with_reducible (have hcc : false = false := hc); clear hcc hc) | (have hp := hc; (try simp only [decide_eq_true_eq, decide_eq_false_iff_not, bA, bB, bC, bD, bE, bF, bG, bH] at hp))))) <;> try simp only [push_cast, reduceIte, nA, nB, nC, reduceCtorEq, nD, nE, nF, nG, iA, iB, iC, iD, *]))
    | fail)
  rename_i m2 h2 m3 h3 m5 h5
  generalize n = m7 at *
  obtain ⟨B, hB⟩ : ∃ B : Heap, B = upd (upd (upd (upd H m2 (.r 25 2 1 [[.c (.int .u64 sent), .l 4 (l.map Pk.av)]])) m3 (.r 44 7 1 [[.c (.int .i64 okd), .c (.int .i64 fr), .c (.int .i64 to), .c (.int .i64 at_), .c (.bool st), .c (.bool ot), .l 1 (bs.map by1)]])) m5 (.r 25 2 1 [[.c (.int .u64 ms), .l 4 (ml.map Pk.av)]])) m7 (.r 47 9 1 [[.c (.int .u64 ts), .l 4 (tl.map Pk.av), .c (.int .u64 tnum), .c (.int .u64 tp1), .c (.int .i64 tp2), .c (.int .i64 tp3), .l 1 (tp4.map by1), .c (.int .i64 tg), .c (.int .i64 0)]]) := ⟨_, rfl⟩
  have k3 : B m3 = some (.r 44 7 1 [[.c (.int .i64 okd), .c (.int .i64 fr), .c (.int .i64 to), .c (.int .i64 at_), .c (.bool st), .c (.bool ot), .l 1 (bs.map by1)]]) := by rw [hB]; simp only [push_cast, reduceIte, nA, nB, nC, reduceCtorEq, nD, nE, nF, nG, iA, iB, iC, iD, *]
  have k5 : B m5 = some (.r 25 2 1 [[.c (.int .u64 ms), .l 4 (ml.map Pk.av)]]) := by rw [hB]; simp only [push_cast, reduceIte, nA, nB, nC, reduceCtorEq, nD, nE, nF, nG, iA, iB, iC, iD, *]
  have k7 : B m7 = some (.r 47 9 1 [[.c (.int .u64 ts), .l 4 (tl.map Pk.av), .c (.int .u64 tnum), .c (.int .u64 tp1), .c (.int .i64 tp2), .c (.int .i64 tp3), .l 1 (tp4.map by1), .c (.int .i64 tg), .c (.int .i64 0)]]) := by rw [hB]; exact upd_same _ _ _
  rw [← hB]
  clear hB hn h2 h3 h5 hsh hch hnu hru hoo
  have hne3 := ne_old k3
  have hne5 := ne_old k5
  have hne7 := ne_old k7
  refine AW_loopN ml.length (fun _ => True) (fun k => [(3, .p m3 7 0 0), (5, .p m5 2 0 0), (6, .c (.int .u64 num)), (7, .p m7 9 0 0), (8, .c (.bool (decide ((kd : Int) = 6)))), (47, .l 4 (ml.map Pk.av)), (48, ci ml.length), (49, ci k)]) (fun _ => B) trivial ?_ ?_ ?_ ?_
  · (first | trivial | (simp only [push_cast, reduceIte, nA, nB, nC, reduceCtorEq, nD, nE, nF, nG, iA, iB, iC, iD, *]; done))
  · exact Heap.le_refl _
  · intro k hk _
    have hp := List.getElem?_eq_getElem (l := ml) hk; generalize ml[k] = p at hp; have hpm := List.mem_of_getElem? hp; have hkl : (k : Int) < ml.length := (by omega); have hkw : IntKind.i64.wrap ((k : Int) + 1) = (k : Int) + 1 := wrap_i64 (by omega) (by omega)
    have htk : List.take 4 (Pk.av p) = Pk.av p := rfl
    have hpo := unhid hos p hpm
    have hgp := unhid hgd p
    have hop := unhid hoth p hpm
    have hcase : ((((kd : Int) = 6) = True ∧ ((p.fr = fr) = True ∨ (¬ p.fr = fr ∧ (p.to = fr) = True))) ∧ gf p = true) ∨ ((((kd : Int) = 6) = True ∧ ¬ p.fr = fr ∧ ¬ p.to = fr) ∧ gf p = false) ∨ ((¬ (kd : Int) = 6 ∧ ¬ (2 : Int) < kd) ∧ gf p = false) ∨ ((¬ (kd : Int) = 6 ∧ (2 : Int) < kd ∧ ¬ p.num = num) ∧ gf p = false)
        ∨ ((¬ (kd : Int) = 6 ∧ (2 : Int) < kd ∧ (p.num = num) = True ∧ ¬ (kd : Int) < 5) ∧ gf p = true) ∨ ((¬ (kd : Int) = 6 ∧ (2 : Int) < kd ∧ (p.num = num) = True ∧ (kd : Int) < 5 ∧ st = true) ∧ gf p = false) ∨ ((¬ (kd : Int) = 6 ∧ (2 : Int) < kd ∧ (p.num = num) = True ∧ (kd : Int) < 5 ∧ st = false) ∧ gf p = true) := by
      by_cases c6 : (kd : Int) = 6
      · by_cases cf : p.fr = fr
        · exact .inl ⟨⟨by simp [c6], .inl (by simp [cf])⟩, by rw [hgp]; simp [c6, cf]⟩
        · by_cases ct : p.to = fr
          · exact .inl ⟨⟨by simp [c6], .inr ⟨cf, by simp [ct]⟩⟩, by rw [hgp]; simp [c6, ct]⟩
          · exact .inr (.inl ⟨⟨by simp [c6], cf, ct⟩, by rw [hgp]; simp [c6, cf, ct]⟩)
      · by_cases c2 : (2 : Int) < kd
        · by_cases cn : p.num = num
          · by_cases c5 : (kd : Int) < 5
            · cases st
              · exact .inr (.inr (.inr (.inr (.inr (.inr ⟨⟨c6, c2, by simp [cn], c5, rfl⟩, by rw [hgp]; simp [c6, c2, cn]⟩)))))
              · exact .inr (.inr (.inr (.inr (.inr (.inl ⟨⟨c6, c2, by simp [cn], c5, rfl⟩, by rw [hgp]; simp [c6, c2, cn, c5]⟩)))))
            · exact .inr (.inr (.inr (.inr (.inl ⟨⟨c6, c2, by simp [cn], c5⟩, by rw [hgp]; simp [c6, c2, cn, c5]⟩))))
          · exact .inr (.inr (.inr (.inl ⟨⟨c6, c2, cn⟩, by rw [hgp]; simp [c6, cn]⟩)))
        · exact .inr (.inr (.inl ⟨⟨c6, c2⟩, by rw [hgp]; simp [c6, c2]⟩))
    have hidx : ∀ (q1 : Nat) (G : Heap), G q1 = some (bxP p) → ACall Try.prog 23 [.l 4 (tl.map Pk.av), .f (.func 24) [] [.p q1 4 0 0]] G fun r H' => r = .c (.int .i64 (idxS (fun q : Pk => decide (q.num = p.num)) tl)) ∧ H' = G := fun q1 G hG =>
      idxL Pk.av (fun _ => rfl) tl (by unfold maxLen; omega) _ _ _ G fun x hx => others1_a x p q1 G hG
    have hbe := bytesEq_p p.bs p.bs hpo hpo
    rw [decide_eq_true rfl] at hbe
    clear hgp hpo
    have hgone : (gf p = true ∧ idxS (fun q : Pk => decide (q.num = p.num)) tl = -1) ∨ (gf p = false ∧ ∃ i : Nat, idxS (fun q : Pk => decide (q.num = p.num)) tl = (i : Int) ∧ tl[i]? = some p) := by
      rcases hop with ⟨h1, h2⟩ | ⟨h1, h2, h3⟩
      · exact .inl ⟨h1, idx_gone h2⟩
      · exact .inr ⟨h1, idx_there h2 h3⟩
    clear hop
    generalize idxS (fun q : Pk => decide (q.num = p.num)) tl = ix at *
    rcases hcase with ⟨⟨c1, c2⟩, hg⟩ | ⟨⟨c1, c2, c3⟩, hg⟩ | ⟨⟨c1, c2⟩, hg⟩ | ⟨⟨c1, c2, c3⟩, hg⟩ | ⟨⟨c1, c2, c3, c4⟩, hg⟩ | ⟨⟨c1, c2, c3, c4, rfl⟩, hg⟩ | ⟨⟨c1, c2, c3, c4, rfl⟩, hg⟩
    case' inl => rcases c2 with c2 | ⟨c2, c3⟩
    all_goals
      rcases hgone with ⟨h1, h2⟩ | ⟨h1, i, h2, h3⟩
      all_goals first
        | (exfalso; rw [hg] at h1; cases h1; done)
        | skip
      all_goals
        subst h2
        try have hil : (i : Int) < tl.length := by have := (List.getElem?_eq_some_iff.1 h3).1; omega
        clear hg h1
        have hm1 : ((-1 : Int) < 0) = True := by simp
        have hm2 : ((0 : Int) ≤ -1) = False := by simp
        have hi0 : ∀ i : Nat, ((i : Int) < 0) = False := fun i => by simp
        replace hidx := Lib.hid hidx
        repeat' (first
    | refine AW_seq_kn fun K hK => ?_
    | refine AW_block ?_
    | (refine does_call rfl rfl ?_; simp only [push_cast, reduceIte, nA, nB, nC, reduceCtorEq, nD, nE, nF, nG, iA, iB, iC, iD, *]; refine ACall.mono (check_p ⟨_, _⟩ (by assumption) _) ?_; (rintro _ _ ⟨rfl, e2⟩; have e3 := e2.symm; clear e2; subst e3); (try simp only [push_cast, reduceIte, nA, nB, nC, reduceCtorEq, nD, nE, nF, nG, iA, iB, iC, iD, *]))
    | (refine does_call rfl rfl ?_; simp only [push_cast, reduceIte, nA, nB, nC, reduceCtorEq, nD, nE, nF, nG, iA, iB, iC, iD, *]; refine ACall.mono (num_p ⟨_, _, _, _, _, _, _⟩ ⟨_, _⟩ (by assumption) _) ?_; (rintro _ _ ⟨rfl, e2⟩; have e3 := e2.symm; clear e2; subst e3); (try simp only [push_cast, reduceIte, nA, nB, nC, reduceCtorEq, nD, nE, nF, nG, iA, iB, iC, iD, *]))
    | (refine does_call rfl rfl ?_; simp only [push_cast, reduceIte, nA, nB, nC, reduceCtorEq, nD, nE, nF, nG, iA, iB, iC, iD, *]; refine ACall.mono (wakes28_p _) ?_; (rintro _ _ ⟨rfl, e2⟩; have e3 := e2.symm; clear e2; subst e3); (try simp only [push_cast, reduceIte, nA, nB, nC, reduceCtorEq, nD, nE, nF, nG, iA, iB, iC, iD, *]))
    | (refine does_call rfl rfl ?_; simp only [push_cast, reduceIte, nA, nB, nC, reduceCtorEq, nD, nE, nF, nG, iA, iB, iC, iD, *]; refine ACall.mono (bytesEq_p _ _ (by assumption) (by assumption) _) ?_; (rintro _ _ ⟨rfl, e2⟩; have e3 := e2.symm; clear e2; subst e3); (try simp only [push_cast, reduceIte, nA, nB, nC, reduceCtorEq, nD, nE, nF, nG, iA, iB, iC, iD, *]))
    | ((first
      | refine AW_region E1 ?_ | refine AW_ret ?_ | refine AW_exit ?_ | refine AW_skip ?_ | unfold retQ); try simp only [push_cast, reduceIte, nA, nB, nC, reduceCtorEq, nD, nE, nF, nG, iA, iB, iC, iD, *])
    | (apply AW_cond; (case hc => (simp only [push_cast, reduceIte, nA, nB, nC, reduceCtorEq, nD, nE, nF, nG, iA, iB, iC, iD]; rfl)); all_goals (intro hc; first | (exfalso; simp only [push_cast, reduceIte, nA, nB, nC, reduceCtorEq, nD, nE, nF, nG, iA, iB, iC, iD, *] at hc; done) | (exact absurd hc (by decide)) | (with_reducible (have hcc : true = true := hc); clear hcc hc) | (with_reducible (have hcc : false = false := hc); clear hcc hc) | ((try simp only [Bool.not_true, Bool.not_false] at hc); (first | (with_reducible (have hcc : true = true := hc); clear hcc hc) | (with_reducible (have hcc : false = false := hc); clear hcc hc) | (have hp := hc; (try simp only [decide_eq_true_eq, decide_eq_false_iff_not, bA, bB, bC, bD, bE, bF, bG, bH] at hp))))))
    | (refine Kn.go hK ?_; clear hK K)
    | refine Kn.go (by assumption) ?_
    | (intro n hn; (try simp only [upd_none2, join_none_iff, ite_none, ne_eq] at hn); (try simp only [push_cast, reduceIte, nA, nB, nC, reduceCtorEq, nD, nE, nF, nG, iA, iB, iC, iD, *]))
    | (intro hc)
    | (apply ER_blk; (case hp => rfl); (case hb => (simp only [push_cast, reduceIte, nA, nB, nC, reduceCtorEq, nD, nE, nF, nG, iA, iB, iC, iD]; rfl)); (case hd => (simp only [push_cast, reduceIte, nA, nB, nC, reduceCtorEq, nD, nE, nF, nG, iA, iB, iC, iD]; done)); (case h => (intro hc; simp only [push_cast, reduceIte, nA, nB, nC, reduceCtorEq, nD, nE, nF, nG, iA, iB, iC, iD, *]; rfl)); simp only [push_cast, reduceIte, nA, nB, nC, reduceCtorEq, nD, nE, nF, nG, iA, iB, iC, iD, *])
    | (apply ER_guard; (case hb => (simp only [push_cast, reduceIte, nA, nB, nC, reduceCtorEq, nD, nE, nF, nG, iA, iB, iC, iD]; rfl)); all_goals ((intro hc; first | (exfalso; simp only [push_cast, reduceIte, nA, nB, nC, reduceCtorEq, nD, nE, nF, nG, iA, iB, iC, iD, *] at hc; done) | (exact absurd hc (by decide)) | (with_reducible (have hcc : true = true := hc); clear hcc hc) | (with_reducible (have hcc : false = false := hc); clear hcc hc) | ((try simp only [Bool.not_true, Bool.not_false] at hc); (first | (with_reducible (have hcc : true = true := hc); clear hcc hc) | (with_reducible (have hcc : false = false := hc); clear hcc hc) | (have hp := hc; (try simp only [decide_eq_true_eq, decide_eq_false_iff_not, bA, bB, bC, bD, bE, bF, bG, bH] at hp))))) <;> try simp only [push_cast, reduceIte, nA, nB, nC, reduceCtorEq, nD, nE, nF, nG, iA, iB, iC, iD, *]))
    | fail)
        refine does_call rfl rfl ?_
        simp only [push_cast, reduceIte, nA, nB, nC, reduceCtorEq, nD, nE, nF, nG, iA, iB, iC, iD, *]
        refine ACall.mono (unhid hidx n _ (upd_same _ _ _)) ?_
        (rintro _ _ ⟨rfl, e2⟩; have e3 := e2.symm; clear e2; subst e3)
        clear hidx
        (try simp only [push_cast, reduceIte, nA, nB, nC, reduceCtorEq, nD, nE, nF, nG, iA, iB, iC, iD, *])
        repeat' (first
    | refine AW_seq_kn fun K hK => ?_
    | refine AW_block ?_
    | (refine does_call rfl rfl ?_; simp only [push_cast, reduceIte, nA, nB, nC, reduceCtorEq, nD, nE, nF, nG, iA, iB, iC, iD, *]; refine ACall.mono (hbe _) ?_; (rintro _ _ ⟨rfl, e2⟩; have e3 := e2.symm; clear e2; subst e3); (try simp only [push_cast, reduceIte, nA, nB, nC, reduceCtorEq, nD, nE, nF, nG, iA, iB, iC, iD, *]))
    | (refine does_call rfl rfl ?_; simp only [push_cast, reduceIte, nA, nB, nC, reduceCtorEq, nD, nE, nF, nG, iA, iB, iC, iD, *]; refine ACall.mono (check_p ⟨_, _⟩ (by assumption) _) ?_; (rintro _ _ ⟨rfl, e2⟩; have e3 := e2.symm; clear e2; subst e3); (try simp only [push_cast, reduceIte, nA, nB, nC, reduceCtorEq, nD, nE, nF, nG, iA, iB, iC, iD, *]))
    | (refine does_call rfl rfl ?_; simp only [push_cast, reduceIte, nA, nB, nC, reduceCtorEq, nD, nE, nF, nG, iA, iB, iC, iD, *]; refine ACall.mono (num_p ⟨_, _, _, _, _, _, _⟩ ⟨_, _⟩ (by assumption) _) ?_; (rintro _ _ ⟨rfl, e2⟩; have e3 := e2.symm; clear e2; subst e3); (try simp only [push_cast, reduceIte, nA, nB, nC, reduceCtorEq, nD, nE, nF, nG, iA, iB, iC, iD, *]))
    | (refine does_call rfl rfl ?_; simp only [push_cast, reduceIte, nA, nB, nC, reduceCtorEq, nD, nE, nF, nG, iA, iB, iC, iD, *]; refine ACall.mono (wakes28_p _) ?_; (rintro _ _ ⟨rfl, e2⟩; have e3 := e2.symm; clear e2; subst e3); (try simp only [push_cast, reduceIte, nA, nB, nC, reduceCtorEq, nD, nE, nF, nG, iA, iB, iC, iD, *]))
    | (refine does_call rfl rfl ?_; simp only [push_cast, reduceIte, nA, nB, nC, reduceCtorEq, nD, nE, nF, nG, iA, iB, iC, iD, *]; refine ACall.mono (bytesEq_p _ _ (by assumption) (by assumption) _) ?_; (rintro _ _ ⟨rfl, e2⟩; have e3 := e2.symm; clear e2; subst e3); (try simp only [push_cast, reduceIte, nA, nB, nC, reduceCtorEq, nD, nE, nF, nG, iA, iB, iC, iD, *]))
    | ((first
      | refine AW_region E1 ?_ | refine AW_ret ?_ | refine AW_exit ?_ | refine AW_skip ?_ | unfold retQ); try simp only [push_cast, reduceIte, nA, nB, nC, reduceCtorEq, nD, nE, nF, nG, iA, iB, iC, iD, *])
    | (apply AW_cond; (case hc => (simp only [push_cast, reduceIte, nA, nB, nC, reduceCtorEq, nD, nE, nF, nG, iA, iB, iC, iD]; rfl)); all_goals (intro hc; first | (exfalso; simp only [push_cast, reduceIte, nA, nB, nC, reduceCtorEq, nD, nE, nF, nG, iA, iB, iC, iD, *] at hc; done) | (exact absurd hc (by decide)) | (with_reducible (have hcc : true = true := hc); clear hcc hc) | (with_reducible (have hcc : false = false := hc); clear hcc hc) | ((try simp only [Bool.not_true, Bool.not_false] at hc); (first | (with_reducible (have hcc : true = true := hc); clear hcc hc) | (with_reducible (have hcc : false = false := hc); clear hcc hc) | (have hp := hc; (try simp only [decide_eq_true_eq, decide_eq_false_iff_not, bA, bB, bC, bD, bE, bF, bG, bH] at hp))))))
    | (refine Kn.go hK ?_; clear hK K)
    | refine Kn.go (by assumption) ?_
    | (intro n hn; (try simp only [upd_none2, join_none_iff, ite_none, ne_eq] at hn); (try simp only [push_cast, reduceIte, nA, nB, nC, reduceCtorEq, nD, nE, nF, nG, iA, iB, iC, iD, *]))
    | (intro hc)
    | (apply ER_blk; (case hp => rfl); (case hb => (simp only [push_cast, reduceIte, nA, nB, nC, reduceCtorEq, nD, nE, nF, nG, iA, iB, iC, iD]; rfl)); (case hd => (simp only [push_cast, reduceIte, nA, nB, nC, reduceCtorEq, nD, nE, nF, nG, iA, iB, iC, iD]; done)); (case h => (intro hc; simp only [push_cast, reduceIte, nA, nB, nC, reduceCtorEq, nD, nE, nF, nG, iA, iB, iC, iD, *]; rfl)); simp only [push_cast, reduceIte, nA, nB, nC, reduceCtorEq, nD, nE, nF, nG, iA, iB, iC, iD, *])
    | (apply ER_guard; (case hb => (simp only [push_cast, reduceIte, nA, nB, nC, reduceCtorEq, nD, nE, nF, nG, iA, iB, iC, iD]; rfl)); all_goals ((intro hc; first | (exfalso; simp only [push_cast, reduceIte, nA, nB, nC, reduceCtorEq, nD, nE, nF, nG, iA, iB, iC, iD, *] at hc; done) | (exact absurd hc (by decide)) | (with_reducible (have hcc : true = true := hc); clear hcc hc) | (with_reducible (have hcc : false = false := hc); clear hcc hc) | ((try simp only [Bool.not_true, Bool.not_false] at hc); (first | (with_reducible (have hcc : true = true := hc); clear hcc hc) | (with_reducible (have hcc : false = false := hc); clear hcc hc) | (have hp := hc; (try simp only [decide_eq_true_eq, decide_eq_false_iff_not, bA, bB, bC, bD, bE, bF, bG, bH] at hp))))) <;> try simp only [push_cast, reduceIte, nA, nB, nC, reduceCtorEq, nD, nE, nF, nG, iA, iB, iC, iD, *]))
    | fail)
        all_goals first | exact ⟨trivial, by (first | trivial | (simp only [push_cast, reduceIte, nA, nB, nC, reduceCtorEq, nD, nE, nF, nG, iA, iB, iC, iD, *]; done)), by first | trivial | (repeat' (first | exact Heap.le_refl _ | refine hle_upd2 ?_ _ _ | (refine Heap.le_new ?_ ?_; rotate_left 1; focus (first | assumption | (simp only [upd_none2, upd_get, ne_eq, push_cast, reduceIte, nA, nB, nC, reduceCtorEq, nD, nE, nF, nG, iA, iB, iC, iD, *]; done) | (simp [upd_get, *]; done))))) | (simp only [push_cast, reduceIte, nA, nB, nC, reduceCtorEq, nD, nE, nF, nG, iA, iB, iC, iD, *])⟩ | done
  · intro _
    have hli : (tl.length : Int) ≤ ml.length + 1 := by omega
    have hlw : IntKind.i64.wrap ((ml.length : Int) + 1) = (ml.length : Int) + 1 := wrap_i64 (by omega) (by omega)
    clear hoth hgd hos
    repeat' (first
    | refine AW_seq_kn fun K hK => ?_
    | refine AW_block ?_
    | (refine does_call rfl rfl ?_; simp only [push_cast, reduceIte, nA, nB, nC, reduceCtorEq, nD, nE, nF, nG, iA, iB, iC, iD, *]; refine ACall.mono (check_p ⟨_, _⟩ (by assumption) _) ?_; (rintro _ _ ⟨rfl, e2⟩; have e3 := e2.symm; clear e2; subst e3); (try simp only [push_cast, reduceIte, nA, nB, nC, reduceCtorEq, nD, nE, nF, nG, iA, iB, iC, iD, *]))
    | (refine does_call rfl rfl ?_; simp only [push_cast, reduceIte, nA, nB, nC, reduceCtorEq, nD, nE, nF, nG, iA, iB, iC, iD, *]; refine ACall.mono (num_p ⟨_, _, _, _, _, _, _⟩ ⟨_, _⟩ (by assumption) _) ?_; (rintro _ _ ⟨rfl, e2⟩; have e3 := e2.symm; clear e2; subst e3); (try simp only [push_cast, reduceIte, nA, nB, nC, reduceCtorEq, nD, nE, nF, nG, iA, iB, iC, iD, *]))
    | (refine does_call rfl rfl ?_; simp only [push_cast, reduceIte, nA, nB, nC, reduceCtorEq, nD, nE, nF, nG, iA, iB, iC, iD, *]; refine ACall.mono (wakes28_p _) ?_; (rintro _ _ ⟨rfl, e2⟩; have e3 := e2.symm; clear e2; subst e3); (try simp only [push_cast, reduceIte, nA, nB, nC, reduceCtorEq, nD, nE, nF, nG, iA, iB, iC, iD, *]))
    | (refine does_call rfl rfl ?_; simp only [push_cast, reduceIte, nA, nB, nC, reduceCtorEq, nD, nE, nF, nG, iA, iB, iC, iD, *]; refine ACall.mono (bytesEq_p _ _ (by assumption) (by assumption) _) ?_; (rintro _ _ ⟨rfl, e2⟩; have e3 := e2.symm; clear e2; subst e3); (try simp only [push_cast, reduceIte, nA, nB, nC, reduceCtorEq, nD, nE, nF, nG, iA, iB, iC, iD, *]))
    | ((first
      | refine AW_region E1 ?_ | refine AW_ret ?_ | refine AW_exit ?_ | refine AW_skip ?_ | unfold retQ); try simp only [push_cast, reduceIte, nA, nB, nC, reduceCtorEq, nD, nE, nF, nG, iA, iB, iC, iD, *])
    | (apply AW_cond; (case hc => (simp only [push_cast, reduceIte, nA, nB, nC, reduceCtorEq, nD, nE, nF, nG, iA, iB, iC, iD]; rfl)); all_goals (intro hc; first | (exfalso; simp only [push_cast, reduceIte, nA, nB, nC, reduceCtorEq, nD, nE, nF, nG, iA, iB, iC, iD, *] at hc; done) | (exact absurd hc (by decide)) | (with_reducible (have hcc : true = true := hc); clear hcc hc) | (with_reducible (have hcc : false = false := hc); clear hcc hc) | ((try simp only [Bool.not_true, Bool.not_false] at hc); (first | (with_reducible (have hcc : true = true := hc); clear hcc hc) | (with_reducible (have hcc : false = false := hc); clear hcc hc) | (have hp := hc; (try simp only [decide_eq_true_eq, decide_eq_false_iff_not, bA, bB, bC, bD, bE, bF, bG, bH] at hp))))))
    | (refine Kn.go hK ?_; clear hK K)
    | refine Kn.go (by assumption) ?_
    | (intro n hn; (try simp only [upd_none2, join_none_iff, ite_none, ne_eq] at hn); (try simp only [push_cast, reduceIte, nA, nB, nC, reduceCtorEq, nD, nE, nF, nG, iA, iB, iC, iD, *]))
    | (intro hc)
    | (apply ER_blk; (case hp => rfl); (case hb => (simp only [push_cast, reduceIte, nA, nB, nC, reduceCtorEq, nD, nE, nF, nG, iA, iB, iC, iD]; rfl)); (case hd => (simp only [push_cast, reduceIte, nA, nB, nC, reduceCtorEq, nD, nE, nF, nG, iA, iB, iC, iD]; done)); (case h => (intro hc; simp only [push_cast, reduceIte, nA, nB, nC, reduceCtorEq, nD, nE, nF, nG, iA, iB, iC, iD, *]; rfl)); simp only [push_cast, reduceIte, nA, nB, nC, reduceCtorEq, nD, nE, nF, nG, iA, iB, iC, iD, *])
    | (apply ER_guard; (case hb => (simp only [push_cast, reduceIte, nA, nB, nC, reduceCtorEq, nD, nE, nF, nG, iA, iB, iC, iD]; rfl)); all_goals ((intro hc; first | (exfalso; simp only [push_cast, reduceIte, nA, nB, nC, reduceCtorEq, nD, nE, nF, nG, iA, iB, iC, iD, *] at hc; done) | (exact absurd hc (by decide)) | (with_reducible (have hcc : true = true := hc); clear hcc hc) | (with_reducible (have hcc : false = false := hc); clear hcc hc) | ((try simp only [Bool.not_true, Bool.not_false] at hc); (first | (with_reducible (have hcc : true = true := hc); clear hcc hc) | (with_reducible (have hcc : false = false := hc); clear hcc hc) | (have hp := hc; (try simp only [decide_eq_true_eq, decide_eq_false_iff_not, bA, bB, bC, bD, bE, bF, bG, bH] at hp))))) <;> try simp only [push_cast, reduceIte, nA, nB, nC, reduceCtorEq, nD, nE, nF, nG, iA, iB, iC, iD, *]))
    | fail)
    all_goals exact ⟨_, _, Weak.refl _ _, by simp [hli]⟩
end Go.Proofs.Ytiepahhneagjhaa
