/- Walks: a net that can be played. -/
import Derived.Test.YtiepahhneagjhaaD
namespace Go.Proofs.Ytiepahhneagjhaa
open Go.RowKit
open Nat renaming reduceEqDiff → nA, reduceLT → nB, reduceLeDiff → nC, reduceAdd → nD, reduceMul → nE, reduceSub → nF, reduceBEq → nG
open Int renaming reduceToNat → iA, reduceLT → iB, reduceLE → iC, reduceEq → iD
open Bool renaming and_eq_true → bA, or_eq_true → bB, or_eq_false_iff → bC, and_eq_false_iff → bD, not_eq_true' → bE, not_eq_false' → bF, not_true → bG, not_false → bH
set_option linter.all false
set_option maxHeartbeats 4000000
attribute [local irreducible] AW Does ACall tE tS tB tZ

def shP (p : Pk) : Pk := { p with bs := p.bs.take 30001 }
def shL (l : List Pk) : List Pk := (l.take 61).map shP
def shN (n : Nt) : Nt := ⟨n.sent, shL n.ps⟩
theorem shL_len (l : List Pk) : (shL l).length ≤ 61 := by simp [shL]; omega
theorem shL_bs {l : List Pk} {p : Pk} (h : p ∈ shL l) : p.bs.length ≤ 30001 := by
  obtain ⟨q, hq, rfl⟩ := List.mem_map.1 h
  simp [shP]; omega
theorem shL_sz (n : Nt) : Sz (shN n) := ⟨by have := shL_len n.ps; simp only [shN]; omega, fun p hp => by have := shL_bs hp; omega⟩
theorem shL_in {l : List Pk} {k : Nat} {z : Pk} (hz : l[k]? = some z) (hk : k ≤ 60) : (shL l)[k]? = some (shP z) := by
  unfold shL; rw [List.getElem?_map, List.getElem?_take, if_pos (by omega), hz]; rfl
theorem shL_out (l : List Pk) {k : Nat} (hk : 60 < k) : (shL l).take (k + 1) = (shL l).take k := by
  have := shL_len l
  rw [List.take_of_length_le (by omega), List.take_of_length_le (by omega)]
theorem shL_all (l : List Pk) : (shL l).take l.length = shL l := List.take_of_length_le (by simp [shL]; omega)
def shZ (b : List Int) : List (List AV) := (b.take 30001).map by1

theorem short28_p (n : Nt) (hl : n.ps.length ≤ maxLen) (hb : ∀ p ∈ n.ps, p.bs.length ≤ maxLen) : Pure Try.prog 14 [.g (Nt.av n)] (.g (Nt.av (shN n))) := by
  intro H
  have hcp := copy28_p (shN n) (shL_sz n)
  obtain ⟨sent, l⟩ := n
  simp only at hl hb
  simp only [shN] at hcp ⊢
  refine ACall_of' Try.func14 rfl (Ent_of Try.func14 (by kernel_rfl) rfl) (by simp [Try.ntmps14]) ?_; simp only [Try.ntmps14, Try.results14]
  repeat' (first
    | refine AW_seq_kn fun K hK => ?_
    | refine AW_block ?_
    | (refine does_call rfl rfl ?_; simp only [push_cast, reduceIte, nA, nB, nC, reduceCtorEq, nD, nE, nF, nG, iA, iB, iC, iD, *]; refine ACall.mono (copy28_p ⟨_, _⟩ (by assumption) _) ?_; (rintro _ _ ⟨rfl, e2⟩; have e3 := e2.symm; clear e2; subst e3); (try simp only [push_cast, reduceIte, nA, nB, nC, reduceCtorEq, nD, nE, nF, nG, iA, iB, iC, iD, *]))
    | ((first
      | refine AW_region E1 ?_ | refine AW_ret ?_ | refine AW_exit ?_ | refine AW_skip ?_ | unfold retQ); try simp only [push_cast, reduceIte, nA, nB, nC, reduceCtorEq, nD, nE, nF, nG, iA, iB, iC, iD, *])
    | (apply AW_cond; (case hc => (simp only [push_cast, reduceIte, nA, nB, nC, reduceCtorEq, nD, nE, nF, nG, iA, iB, iC, iD]; rfl)); all_goals (intro hc; first | (exfalso; simp only [push_cast, reduceIte, nA, nB, nC, reduceCtorEq, nD, nE, nF, nG, iA, iB, iC, iD, *] at hc; done) | (exact absurd hc (by decide)) | (with_reducible (have hcc : true = true := hc); clear hcc hc) | (with_reducible (have hcc : false = false := hc); clear hcc hc) | ((try simp only [Bool.not_true, Bool.not_false] at hc); (first | (with_reducible (have hcc : true = true := hc); clear hcc hc) | (with_reducible (have hcc : false = false := hc); clear hcc hc) | (have hp := hc; (try simp only [decide_eq_true_eq, decide_eq_false_iff_not, bA, bB, bC, bD, bE, bF, bG, bH] at hp))))))
    | (refine Kn.go hK ?_; clear hK K)
    | refine Kn.go (by assumption) ?_
    | (intro n hn; (try simp only [upd_none2, join_none_iff, ite_none, ne_eq] at hn); (try simp only [push_cast, reduceIte, nA, nB, nC, reduceCtorEq, nD, nE, nF, nG, iA, iB, iC, iD, *]))
    | (intro hc)
    | fail)
  rename_i n1 h1
  generalize n = n2 at *
  obtain ⟨H0, hH0⟩ : ∃ H0 : Heap, H0 = upd (upd H n1 (.r 25 2 1 [[.c (.int .u64 sent), .l 4 (l.map Pk.av)]])) n2 (.r 25 2 1 [[.c (.int .u64 0), .c (.slice none 0 0)]]) := ⟨_, rfl⟩
  have hle0 : Heap.le H H0 := by rw [hH0]; exact Heap.le_new (Heap.le_new (Heap.le_refl _) h1) hn.2
  have g1 : H0 n1 = some (.r 25 2 1 [[.c (.int .u64 sent), .l 4 (l.map Pk.av)]]) := by rw [hH0, upd_ne (fun h => hn.1.1 h.symm)]; exact upd_same _ _ _
  have g2 : H0 n2 = some (.r 25 2 1 [[.c (.int .u64 0), .c (.slice none 0 0)]]) := by rw [hH0]; exact upd_same _ _ _
  have hn2 := hn.2
  have hn21 : ¬ n2 = n1 := hn.1.1
  have hn12 : ¬ n1 = n2 := fun h => hn21 h.symm
  rw [← hH0]
  clear hH0 hn
  refine AW_loopX (σ := AV × Heap) l.length (fun k s => OwnL s.2 s.1 34 4 (((shL l).take k).map Pk.av) H0) (fun k s => [(1, .p n1 2 0 0), (2, .p n2 2 0 0), (3, s.1), (7, .l 4 (l.map Pk.av)), (8, ci l.length), (9, ci k)]) (fun _ s => s.2) (.c (.slice none 0 0), H0) (.inl ⟨⟨_, rfl⟩, rfl, rfl⟩) ?_ ?_ ?_ ?_
  · (first | trivial | (simp only [push_cast, reduceIte, nA, nB, nC, reduceCtorEq, nD, nE, nF, nG, iA, iB, iC, iD, *]; done))
  · exact Heap.le_refl _
  · rintro k ⟨x, B⟩ hk hown
    simp only at hown
    have hcs := hown.cs
    unfold maxLen at hl hb
    have hz := List.getElem?_eq_getElem (l := l) hk; generalize l[k] = z at hz; have hzm := List.mem_of_getElem? hz; have hkl : (k : Int) < l.length := (by omega); have hkw : IntKind.i64.wrap ((k : Int) + 1) = (k : Int) + 1 := wrap_i64 (by omega) (by omega)
    have hzb := hb z hzm
    have htk : List.take 4 (Pk.av z) = Pk.av z := rfl
    have hsl := shL_len l
    clear hb hcp
    by_cases h60 : 60 < k
    · have h60' : ¬ (k : Int) ≤ 60 := by omega
      replace hown := Lib.hid hown
      repeat' (first
    | refine AW_seq_kn fun K hK => ?_
    | refine AW_block ?_
    | (refine does_call rfl rfl ?_; simp only [push_cast, reduceIte, nA, nB, nC, reduceCtorEq, nD, nE, nF, nG, iA, iB, iC, iD, *]; refine ACall.mono (copy28_p ⟨_, _⟩ (by assumption) _) ?_; (rintro _ _ ⟨rfl, e2⟩; have e3 := e2.symm; clear e2; subst e3); (try simp only [push_cast, reduceIte, nA, nB, nC, reduceCtorEq, nD, nE, nF, nG, iA, iB, iC, iD, *]))
    | ((first
      | refine AW_region E1 ?_ | refine AW_ret ?_ | refine AW_exit ?_ | refine AW_skip ?_ | unfold retQ); try simp only [push_cast, reduceIte, nA, nB, nC, reduceCtorEq, nD, nE, nF, nG, iA, iB, iC, iD, *])
    | (apply AW_cond; (case hc => (simp only [push_cast, reduceIte, nA, nB, nC, reduceCtorEq, nD, nE, nF, nG, iA, iB, iC, iD]; rfl)); all_goals (intro hc; first | (exfalso; simp only [push_cast, reduceIte, nA, nB, nC, reduceCtorEq, nD, nE, nF, nG, iA, iB, iC, iD, *] at hc; done) | (exact absurd hc (by decide)) | (with_reducible (have hcc : true = true := hc); clear hcc hc) | (with_reducible (have hcc : false = false := hc); clear hcc hc) | ((try simp only [Bool.not_true, Bool.not_false] at hc); (first | (with_reducible (have hcc : true = true := hc); clear hcc hc) | (with_reducible (have hcc : false = false := hc); clear hcc hc) | (have hp := hc; (try simp only [decide_eq_true_eq, decide_eq_false_iff_not, bA, bB, bC, bD, bE, bF, bG, bH] at hp))))))
    | (refine Kn.go hK ?_; clear hK K)
    | refine Kn.go (by assumption) ?_
    | (intro n hn; (try simp only [upd_none2, join_none_iff, ite_none, ne_eq] at hn); (try simp only [push_cast, reduceIte, nA, nB, nC, reduceCtorEq, nD, nE, nF, nG, iA, iB, iC, iD, *]))
    | (intro hc)
    | fail)
      refine ⟨(x, B), by rw [shL_out l h60]; exact unhid hown, by (first | trivial | (simp only [push_cast, reduceIte, nA, nB, nC, reduceCtorEq, nD, nE, nF, nG, iA, iB, iC, iD, *]; done)), ?_⟩
      first | (repeat' (first | exact Heap.le_refl _ | refine hle_upd2 ?_ _ _ | (refine Heap.le_new ?_ ?_; rotate_left 1; focus (first | assumption | (simp only [upd_none2, upd_get, ne_eq, push_cast, reduceIte, nA, nB, nC, reduceCtorEq, nD, nE, nF, nG, iA, iB, iC, iD, *]; done) | (simp [upd_get, *]; done))))) | exact Heap.le_new (Heap.le_refl _) (by assumption)
    have h60' : (k : Int) ≤ 60 := by omega
    have hsz := shL_in hz (by omega)
    obtain ⟨mn, hmn, hm1, hm2, hm3⟩ : ∃ mn : Nat, (if (30001 : Int) < z.bs.length then 30001 else (z.bs.length : Int)) = (mn : Int) ∧ mn ≤ z.bs.length ∧ mn ≤ 30001 ∧ z.bs.take mn = z.bs.take 30001 := by
      by_cases c : 30001 < z.bs.length
      · exact ⟨30001, by rw [if_pos (by omega)]; rfl, by omega, by omega, rfl⟩
      · exact ⟨z.bs.length, by rw [if_neg (by omega)], by omega, by omega, by rw [List.take_of_length_le (by omega), List.take_of_length_le (by omega)]⟩
    have hmI : (mn : Int) ≤ z.bs.length := by omega
    have hzl : (List.map by1 z.bs).take mn = (z.bs.take 30001).map by1 := by rw [← hm3, List.map_take]
    replace hown := Lib.hid hown
    replace hm3 := Lib.hid hm3
    replace hsz := Lib.hid hsz
    repeat' (first
    | refine AW_seq_kn fun K hK => ?_
    | refine AW_block ?_
    | (refine does_call rfl rfl ?_; simp only [push_cast, reduceIte, nA, nB, nC, reduceCtorEq, nD, nE, nF, nG, iA, iB, iC, iD, *]; refine ACall.mono (copy28_p ⟨_, _⟩ (by assumption) _) ?_; (rintro _ _ ⟨rfl, e2⟩; have e3 := e2.symm; clear e2; subst e3); (try simp only [push_cast, reduceIte, nA, nB, nC, reduceCtorEq, nD, nE, nF, nG, iA, iB, iC, iD, *]))
    | ((first
      | refine AW_region E1 ?_ | refine AW_ret ?_ | refine AW_exit ?_ | refine AW_skip ?_ | unfold retQ); try simp only [push_cast, reduceIte, nA, nB, nC, reduceCtorEq, nD, nE, nF, nG, iA, iB, iC, iD, *])
    | (apply AW_cond; (case hc => (simp only [push_cast, reduceIte, nA, nB, nC, reduceCtorEq, nD, nE, nF, nG, iA, iB, iC, iD]; rfl)); all_goals (intro hc; first | (exfalso; simp only [push_cast, reduceIte, nA, nB, nC, reduceCtorEq, nD, nE, nF, nG, iA, iB, iC, iD, *] at hc; done) | (exact absurd hc (by decide)) | (with_reducible (have hcc : true = true := hc); clear hcc hc) | (with_reducible (have hcc : false = false := hc); clear hcc hc) | ((try simp only [Bool.not_true, Bool.not_false] at hc); (first | (with_reducible (have hcc : true = true := hc); clear hcc hc) | (with_reducible (have hcc : false = false := hc); clear hcc hc) | (have hp := hc; (try simp only [decide_eq_true_eq, decide_eq_false_iff_not, bA, bB, bC, bD, bE, bF, bG, bH] at hp))))))
    | (refine Kn.go hK ?_; clear hK K)
    | refine Kn.go (by assumption) ?_
    | (intro n hn; (try simp only [upd_none2, join_none_iff, ite_none, ne_eq] at hn); (try simp only [push_cast, reduceIte, nA, nB, nC, reduceCtorEq, nD, nE, nF, nG, iA, iB, iC, iD, *]))
    | (intro hc)
    | fail)
    rename_i n5 h5
    refine does_app1 rfl rfl rfl rfl ((unhid hown).new h5 _) (by simp only [upd_none2]; assumption) tE23 tS34 tB34 tZ34 rfl (by decide) ?_ ?_ ?_
    · simp only [List.length_map, List.length_take, maxLen]; omega
    · simp only [List.length_map, List.length_take]; omega
    intro x' H' hown'
    have a5 : H0 n5 = none := (unhid hown).none h5
    have hcs' := hown'.cs
    obtain ⟨H2, l1, l2⟩ := hown'.cut (K := H0) (Heap.le_new (Heap.le_refl _) a5)
    rw [show [[AV.c (Value.int IntKind.u64 z.num), AV.c (Value.int IntKind.i64 z.fr), AV.c (Value.int IntKind.i64 z.to), AV.l 1 ((z.bs.take 30001).map by1)]] = [Pk.av (shP z)] from rfl, ← take_snoc_map Pk.av (unhid hsz)] at l2
    clear hown hown' hcs
    replace l2 := Lib.hid l2
    (try simp only [push_cast, reduceIte, nA, nB, nC, reduceCtorEq, nD, nE, nF, nG, iA, iB, iC, iD, *])
    repeat' (first
    | refine AW_seq_kn fun K hK => ?_
    | refine AW_block ?_
    | (refine does_call rfl rfl ?_; simp only [push_cast, reduceIte, nA, nB, nC, reduceCtorEq, nD, nE, nF, nG, iA, iB, iC, iD, *]; refine ACall.mono (copy28_p ⟨_, _⟩ (by assumption) _) ?_; (rintro _ _ ⟨rfl, e2⟩; have e3 := e2.symm; clear e2; subst e3); (try simp only [push_cast, reduceIte, nA, nB, nC, reduceCtorEq, nD, nE, nF, nG, iA, iB, iC, iD, *]))
    | ((first
      | refine AW_region E1 ?_ | refine AW_ret ?_ | refine AW_exit ?_ | refine AW_skip ?_ | unfold retQ); try simp only [push_cast, reduceIte, nA, nB, nC, reduceCtorEq, nD, nE, nF, nG, iA, iB, iC, iD, *])
    | (apply AW_cond; (case hc => (simp only [push_cast, reduceIte, nA, nB, nC, reduceCtorEq, nD, nE, nF, nG, iA, iB, iC, iD]; rfl)); all_goals (intro hc; first | (exfalso; simp only [push_cast, reduceIte, nA, nB, nC, reduceCtorEq, nD, nE, nF, nG, iA, iB, iC, iD, *] at hc; done) | (exact absurd hc (by decide)) | (with_reducible (have hcc : true = true := hc); clear hcc hc) | (with_reducible (have hcc : false = false := hc); clear hcc hc) | ((try simp only [Bool.not_true, Bool.not_false] at hc); (first | (with_reducible (have hcc : true = true := hc); clear hcc hc) | (with_reducible (have hcc : false = false := hc); clear hcc hc) | (have hp := hc; (try simp only [decide_eq_true_eq, decide_eq_false_iff_not, bA, bB, bC, bD, bE, bF, bG, bH] at hp))))))
    | (refine Kn.go hK ?_; clear hK K)
    | refine Kn.go (by assumption) ?_
    | (intro n hn; (try simp only [upd_none2, join_none_iff, ite_none, ne_eq] at hn); (try simp only [push_cast, reduceIte, nA, nB, nC, reduceCtorEq, nD, nE, nF, nG, iA, iB, iC, iD, *]))
    | (intro hc)
    | fail)
    exact ⟨(x', H2), unhid l2, by (first | trivial | (simp only [push_cast, reduceIte, nA, nB, nC, reduceCtorEq, nD, nE, nF, nG, iA, iB, iC, iD, *]; done)), l1⟩
  · rintro ⟨x, B⟩ hown
    simp only [shL_all] at hown
    have k1 := hown.get g1
    have k2 := hown.get g2
    have hcs := hown.cs
    refine AW_own hown [(1, .p n1 2 0 0), (2, .p n2 2 0 0), (3, .l 4 ((shL l).map Pk.av)), (7, .l 4 (l.map Pk.av)), (8, ci l.length), (9, ci l.length)] (by ((try simp only [SlO, push_cast, reduceIte, nA, nB, nC, reduceCtorEq, nD, nE, nF, nG, iA, iB, iC, iD, *]); done)) (Heap.le_refl _) ?_
    simp only [Nt.av] at hcp
    clear hcs k1 k2 hown
    repeat' (first
    | refine AW_seq_kn fun K hK => ?_
    | refine AW_block ?_
    | (refine does_call rfl rfl ?_; simp only [push_cast, reduceIte, nA, nB, nC, reduceCtorEq, nD, nE, nF, nG, iA, iB, iC, iD, *]; refine ACall.mono (hcp _) ?_; (rintro _ _ ⟨rfl, e2⟩; have e3 := e2.symm; clear e2; subst e3); (try simp only [push_cast, reduceIte, nA, nB, nC, reduceCtorEq, nD, nE, nF, nG, iA, iB, iC, iD, *]))
    | (refine does_call rfl rfl ?_; simp only [push_cast, reduceIte, nA, nB, nC, reduceCtorEq, nD, nE, nF, nG, iA, iB, iC, iD, *]; refine ACall.mono (copy28_p ⟨_, _⟩ (by assumption) _) ?_; (rintro _ _ ⟨rfl, e2⟩; have e3 := e2.symm; clear e2; subst e3); (try simp only [push_cast, reduceIte, nA, nB, nC, reduceCtorEq, nD, nE, nF, nG, iA, iB, iC, iD, *]))
    | ((first
      | refine AW_region E1 ?_ | refine AW_ret ?_ | refine AW_exit ?_ | refine AW_skip ?_ | unfold retQ); try simp only [push_cast, reduceIte, nA, nB, nC, reduceCtorEq, nD, nE, nF, nG, iA, iB, iC, iD, *])
    | (apply AW_cond; (case hc => (simp only [push_cast, reduceIte, nA, nB, nC, reduceCtorEq, nD, nE, nF, nG, iA, iB, iC, iD]; rfl)); all_goals (intro hc; first | (exfalso; simp only [push_cast, reduceIte, nA, nB, nC, reduceCtorEq, nD, nE, nF, nG, iA, iB, iC, iD, *] at hc; done) | (exact absurd hc (by decide)) | (with_reducible (have hcc : true = true := hc); clear hcc hc) | (with_reducible (have hcc : false = false := hc); clear hcc hc) | ((try simp only [Bool.not_true, Bool.not_false] at hc); (first | (with_reducible (have hcc : true = true := hc); clear hcc hc) | (with_reducible (have hcc : false = false := hc); clear hcc hc) | (have hp := hc; (try simp only [decide_eq_true_eq, decide_eq_false_iff_not, bA, bB, bC, bD, bE, bF, bG, bH] at hp))))))
    | (refine Kn.go hK ?_; clear hK K)
    | refine Kn.go (by assumption) ?_
    | (intro n hn; (try simp only [upd_none2, join_none_iff, ite_none, ne_eq] at hn); (try simp only [push_cast, reduceIte, nA, nB, nC, reduceCtorEq, nD, nE, nF, nG, iA, iB, iC, iD, *]))
    | (intro hc)
    | fail)
    refine ⟨_, _, Weak.less ?_, rfl, rfl⟩
    intro q b hq
    have c3 : ¬ q = n1 := by rintro rfl; rw [h1] at hq; cases hq
    have c2 : ¬ q = n2 := by rintro rfl; rw [hn2] at hq; cases hq
    simp only [upd_get, c2, c3, if_false]
    exact hle0 _ _ hq
end Go.Proofs.Ytiepahhneagjhaa
