/- Plain law: what records do to a table, said by the document. -/
import Derived.Test.YtmkncbddjnaklaaTS
import Derived.Test.YtmkncbddjnaklaaTM
import Derived.Test.YtmkncbddjnaklaaI
import Derived.Test.YtmkncbddjnaklaaTR
namespace Go.Proofs.Ytmkncbddjnaklaa
open Go.RowKit
open Nat renaming reduceEqDiff → nA, reduceLT → nB, reduceLeDiff → nC, reduceAdd → nD, reduceMul → nE, reduceSub → nF, reduceBEq → nG
open Int renaming reduceToNat → iA, reduceLT → iB, reduceLE → iC, reduceEq → iD
open Bool renaming and_eq_true → bA, or_eq_true → bB, or_eq_false_iff → bC, and_eq_false_iff → bD, not_eq_true' → bE, not_eq_false' → bF, not_true → bG, not_false → bH
set_option linter.all false
set_option maxHeartbeats 4000000
attribute [local irreducible] AW Does ACall tE tS tB tZ

theorem fits_nz {o : OpD} {c : CellD} (hf : fitsS o c = true) : c = zeroC ∨ 1 ≤ c.count := by
  unfold fitsS soundS at hf
  split at hf
  · simp only [Bool.or_eq_true, decide_eq_true_eq] at hf
    rcases hf with h | h
    · right; omega
    · exact .inl h
  · split at hf
    · simp only [Bool.and_eq_true, Bool.or_eq_true, decide_eq_true_eq] at hf
      rcases hf.1 with h | h
      · right; omega
      · exact .inl h
    · exact .inl (of_decide_eq_true hf)
theorem runS_nz (o : OpD) (c : CellD) (v : Int) (hok : c.ok) (he : (runS o c [v]).2.2 = 0) : (runS o c [v]).1 = zeroC ∨ 1 ≤ (runS o c [v]).1.count := by
  have hd : runS o c [v] = if aloneS o = false then (zeroC, [], 180) else if fitsS o c = false then (zeroC, [], 181) else if (flowS o c [v]).2.2 ≠ 0 then (zeroC, [], (flowS o c [v]).2.2) else ((flowS o c [v]).1, (flowS o c [v]).2.1, 0) := rfl
  cases ha : aloneS o
  · rw [hd, ha]; exact .inl rfl
  cases hf : fitsS o c
  · rw [hd, ha, hf]; exact .inl rfl
  have hone := runS_one o c v ha hf
  rw [hone] at he ⊢
  by_cases hm : c.count = 9223372036854775807
  · rw [if_pos hm]; exact .inl rfl
  · rw [if_neg hm]; exact fits_nz (fits_step o c v ha hf hok hm)
def okTab (T : List KC) : Prop := ∀ x ∈ T, (cellK x).ok
theorem getS_ok {T : List KC} (h : okTab T) (r : Rec) : (getS T r).ok := by
  unfold getS
  split
  · rename_i x hx
    exact h x (List.mem_of_find?_eq_some hx)
  · unfold CellD.ok i64b; simp
theorem okTab_set {T : List KC} (h : okTab T) (hr : Rise T) (r : Rec) {c : CellD} (hc : c.ok) : okTab (setS T r c) := fun x hx => by
  rw [setS_rp r c T hr] at hx
  rcases rp_mem r c T _ x hx with h1 | rfl
  · exact h x h1
  · exact hc
theorem runS_ok1 (o : OpD) (c : CellD) (v : Int) (hok : c.ok) (hv : i64b v) : (runS o c [v]).1.ok := by
  have hz : zeroC.ok := by unfold CellD.ok i64b zeroC; simp
  have h := (flowS_ok o [v] c hok (by simpa using hv)).1
  unfold runS
  split
  · exact hz
  split
  · exact hz
  split
  · exact hz
  · exact h
def rfGo (o : OpD) : List KC → List Rec → List Rec → List KC × List Rec × Int
  | T, O, [] => (T, O, 0)
  | T, O, r :: l => if (DoT o T r).2.2 ≠ 0 then ([], [], (DoT o T r).2.2) else rfGo o (DoT o T r).1 (O ++ (DoT o T r).2.1) l
theorem rfGo_run (o : OpD) : ∀ (l : List Rec) (T : List KC) (O : List Rec), tOk T = true → okTab T → (∀ r ∈ l, i64b r.v) → rfGo o T O l = if (runA o T O l).2.2 ≠ 0 then ([], [], (runA o T O l).2.2) else runA o T O l
  | [], T, O, _, _, _ => by simp [rfGo, runA]
  | r :: l, T, O, ht, hk, hv => by
    have hd := DoT_eq o T r
    rw [if_neg (by rw [ht]; decide)] at hd
    simp only [rfGo, runA]
    by_cases hq : recOk r = false
    · rw [if_pos hq] at hd
      rw [hd]; simp [hq]
    rw [if_neg hq] at hd
    have hqt : recOk r = true := by simpa using hq
    by_cases he : (runS o (getS T r) [r.v]).2.2 = 0
    · rw [if_neg (by simp [he])] at hd
      rw [hd]
      have hg := getS_ok hk r
      have hvr := hv r (by simp)
      simp only [hq, he, ne_eq, not_true_eq_false, if_false]
      exact rfGo_run o l _ _ (tOk_set ht hqt (runS_nz o _ _ hg he)) (okTab_set hk (tOk_rise ht) r (runS_ok1 o _ _ hg hvr)) (fun x hx => hv x (by simp [hx]))
    · rw [if_pos he] at hd
      rw [hd]; simp [hq, he]
end Go.Proofs.Ytmkncbddjnaklaa
