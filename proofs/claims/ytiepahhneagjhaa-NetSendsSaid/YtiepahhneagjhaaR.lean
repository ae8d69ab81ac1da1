/- Walks: parcels of a node are lost. -/
import Derived.Test.YtiepahhneagjhaaG
import Derived.Test.YtiepahhneagjhaaM40
namespace Go.Proofs.Ytiepahhneagjhaa
open Go.RowKit
open Nat renaming reduceEqDiff → nA, reduceLT → nB, reduceLeDiff → nC, reduceAdd → nD, reduceMul → nE, reduceSub → nF, reduceBEq → nG
open Int renaming reduceToNat → iA, reduceLT → iB, reduceLE → iC, reduceEq → iD
open Bool renaming and_eq_true → bA, or_eq_true → bB, or_eq_false_iff → bC, and_eq_false_iff → bD, not_eq_true' → bE, not_eq_false' → bF, not_true → bG, not_false → bH
set_option linter.all false
set_option maxHeartbeats 4000000
attribute [local irreducible] AW Does ACall tE tS tB tZ

theorem idxO {α : Type} (enc : α → List AV) (he : ∀ x, (enc x).length = 4) (l : List α) (hl : l.length ≤ 1000000) (p : α → Bool) (gf : FuncId) (caps : List AV) (H : Heap) {n cap : Nat} {ty : TypeId} (hH : H n = some (.r ty 4 cap (l.map enc)))
    (hf : ∀ x ∈ l, ∀ G, Heap.le H G → ACall Try.prog gf ([.g (enc x)] ++ caps) G fun r H' => r = .c (.bool (p x)) ∧ H' = G) :
    ACall Try.prog 23 [.s n 4 0 l.length cap, .f (.func gf) [] caps] H fun r H' => r = .c (.int .i64 (idxS p l)) ∧ H' = H := by
  refine ACall_of' Try.func23 rfl (Ent_of Try.func23 (by kernel_rfl) rfl) (by simp [Try.ntmps23]) ?_; simp only [Try.ntmps23, Try.results23]
  repeat' (first
    | refine AW_seq_kn fun K hK => ?_
    | refine AW_block ?_
    | ((first
      | refine AW_region E0 ?_ | refine AW_ret ?_ | refine AW_exit ?_ | refine AW_skip ?_ | unfold retQ); try simp only [push_cast, reduceIte, nA, nB, nC, reduceCtorEq, nD, nE, nF, nG, iA, iB, iC, iD, *])
    | (apply AW_cond; (case hc => (simp only [push_cast, reduceIte, nA, nB, nC, reduceCtorEq, nD, nE, nF, nG, iA, iB, iC, iD]; rfl)); all_goals (intro hc; first | (exfalso; simp only [push_cast, reduceIte, nA, nB, nC, reduceCtorEq, nD, nE, nF, nG, iA, iB, iC, iD, *] at hc; done) | (exact absurd hc (by decide)) | (with_reducible (have hcc : true = true := hc); clear hcc hc) | (with_reducible (have hcc : false = false := hc); clear hcc hc) | ((try simp only [Bool.not_true, Bool.not_false] at hc); (first | (with_reducible (have hcc : true = true := hc); clear hcc hc) | (with_reducible (have hcc : false = false := hc); clear hcc hc) | (have hp := hc; (try simp only [decide_eq_true_eq, decide_eq_false_iff_not, bA, bB, bC, bD, bE, bF, bG, bH] at hp))))))
    | (refine Kn.go hK ?_; clear hK K)
    | refine Kn.go (by assumption) ?_
    | (intro n hn; (try simp only [upd_none2, join_none_iff, ite_none, ne_eq] at hn); (try simp only [push_cast, reduceIte, nA, nB, nC, reduceCtorEq, nD, nE, nF, nG, iA, iB, iC, iD, *]))
    | (intro hc)
    | fail)
  refine AW_loopS (fun k : Nat => k ≤ l.length ∧ ∀ j y, j < k → l[j]? = some y → p y = false) (fun k => [(0, .s n 4 0 l.length cap), (1, .f (.func gf) [] caps), (7, .c (.int .i64 l.length)), (8, .c (.int .i64 k))]) (fun _ => H) (fun k => l.length - k) 0 ⟨Nat.zero_le _, fun j y hj => by omega⟩ ?_ (Heap.le_refl _) ?_
  · simp only [push_cast, reduceIte, nA, nB, nC, reduceCtorEq, nD, nE, nF, nG, iA, iB, iC, iD, *]
  · rintro k ⟨hk, hno⟩
    by_cases hlt : k < l.length
    · have hx := List.getElem?_eq_getElem hlt
      generalize l[k] = x at hx
      have hlt' : (k : Int) < l.length := by omega
      have htk : List.take 4 (enc x) = enc x := List.take_of_length_le (Nat.le_of_eq (he x))
      have hex := he x
      have hwk : IntKind.i64.wrap ((k : Int) + 1) = (k : Int) + 1 := wrap_i64 (by omega) (by omega)
      have hcall := hf x (List.mem_of_getElem? hx)
      simp only [push_cast, reduceIte, nA, nB, nC, reduceCtorEq, nD, nE, nF, nG, iA, iB, iC, iD] at hcall
      clear hf
      cases hpx : p x
      · rw [hpx] at hcall
        repeat' (first
    | refine AW_seq_kn fun K hK => ?_
    | refine AW_block ?_
    | (refine does_call_f rfl (by simp only [push_cast, reduceIte, nA, nB, nC, reduceCtorEq, nD, nE, nF, nG, iA, iB, iC, iD]; rfl) ?_; simp only [push_cast, reduceIte, nA, nB, nC, reduceCtorEq, nD, nE, nF, nG, iA, iB, iC, iD, *]; refine ACall.mono (hcall _ ?hle) ?_; (case hle => (repeat' (first | exact Heap.le_refl _ | refine hle_upd2 ?_ _ _ | (refine Heap.le_new ?_ ?_; rotate_left 1; focus (first | assumption | (simp only [upd_none2, upd_get, ne_eq, push_cast, reduceIte, nA, nB, nC, reduceCtorEq, nD, nE, nF, nG, iA, iB, iC, iD, *]; done) | (simp [upd_get, *]; done)))))); (rintro _ _ ⟨rfl, e2⟩; have e3 := e2.symm; clear e2; subst e3); (try simp only [push_cast, reduceIte, nA, nB, nC, reduceCtorEq, nD, nE, nF, nG, iA, iB, iC, iD, *]))
    | ((first
      | refine AW_region E0 ?_ | refine AW_ret ?_ | refine AW_exit ?_ | refine AW_skip ?_ | unfold retQ); try simp only [push_cast, reduceIte, nA, nB, nC, reduceCtorEq, nD, nE, nF, nG, iA, iB, iC, iD, *])
    | (apply AW_cond; (case hc => (simp only [push_cast, reduceIte, nA, nB, nC, reduceCtorEq, nD, nE, nF, nG, iA, iB, iC, iD]; rfl)); all_goals (intro hc; first | (exfalso; simp only [push_cast, reduceIte, nA, nB, nC, reduceCtorEq, nD, nE, nF, nG, iA, iB, iC, iD, *] at hc; done) | (exact absurd hc (by decide)) | (with_reducible (have hcc : true = true := hc); clear hcc hc) | (with_reducible (have hcc : false = false := hc); clear hcc hc) | ((try simp only [Bool.not_true, Bool.not_false] at hc); (first | (with_reducible (have hcc : true = true := hc); clear hcc hc) | (with_reducible (have hcc : false = false := hc); clear hcc hc) | (have hp := hc; (try simp only [decide_eq_true_eq, decide_eq_false_iff_not, bA, bB, bC, bD, bE, bF, bG, bH] at hp))))))
    | (refine Kn.go hK ?_; clear hK K)
    | refine Kn.go (by assumption) ?_
    | (intro n hn; (try simp only [upd_none2, join_none_iff, ite_none, ne_eq] at hn); (try simp only [push_cast, reduceIte, nA, nB, nC, reduceCtorEq, nD, nE, nF, nG, iA, iB, iC, iD, *]))
    | (intro hc)
    | fail)
        refine ⟨k + 1, ⟨by omega, fun j y hj hy => ?_⟩, by simp only [push_cast, reduceIte, nA, nB, nC, reduceCtorEq, nD, nE, nF, nG, iA, iB, iC, iD, *], by omega⟩
        by_cases e : j = k
        · subst e; rw [hx] at hy; cases hy; exact hpx
        · exact hno j y (by omega) hy
      · rw [hpx] at hcall
        repeat' (first
    | refine AW_seq_kn fun K hK => ?_
    | refine AW_block ?_
    | (refine does_call_f rfl (by simp only [push_cast, reduceIte, nA, nB, nC, reduceCtorEq, nD, nE, nF, nG, iA, iB, iC, iD]; rfl) ?_; simp only [push_cast, reduceIte, nA, nB, nC, reduceCtorEq, nD, nE, nF, nG, iA, iB, iC, iD, *]; refine ACall.mono (hcall _ ?hle) ?_; (case hle => (repeat' (first | exact Heap.le_refl _ | refine hle_upd2 ?_ _ _ | (refine Heap.le_new ?_ ?_; rotate_left 1; focus (first | assumption | (simp only [upd_none2, upd_get, ne_eq, push_cast, reduceIte, nA, nB, nC, reduceCtorEq, nD, nE, nF, nG, iA, iB, iC, iD, *]; done) | (simp [upd_get, *]; done)))))); (rintro _ _ ⟨rfl, e2⟩; have e3 := e2.symm; clear e2; subst e3); (try simp only [push_cast, reduceIte, nA, nB, nC, reduceCtorEq, nD, nE, nF, nG, iA, iB, iC, iD, *]))
    | ((first
      | refine AW_region E0 ?_ | refine AW_ret ?_ | refine AW_exit ?_ | refine AW_skip ?_ | unfold retQ); try simp only [push_cast, reduceIte, nA, nB, nC, reduceCtorEq, nD, nE, nF, nG, iA, iB, iC, iD, *])
    | (apply AW_cond; (case hc => (simp only [push_cast, reduceIte, nA, nB, nC, reduceCtorEq, nD, nE, nF, nG, iA, iB, iC, iD]; rfl)); all_goals (intro hc; first | (exfalso; simp only [push_cast, reduceIte, nA, nB, nC, reduceCtorEq, nD, nE, nF, nG, iA, iB, iC, iD, *] at hc; done) | (exact absurd hc (by decide)) | (with_reducible (have hcc : true = true := hc); clear hcc hc) | (with_reducible (have hcc : false = false := hc); clear hcc hc) | ((try simp only [Bool.not_true, Bool.not_false] at hc); (first | (with_reducible (have hcc : true = true := hc); clear hcc hc) | (with_reducible (have hcc : false = false := hc); clear hcc hc) | (have hp := hc; (try simp only [decide_eq_true_eq, decide_eq_false_iff_not, bA, bB, bC, bD, bE, bF, bG, bH] at hp))))))
    | (refine Kn.go hK ?_; clear hK K)
    | refine Kn.go (by assumption) ?_
    | (intro n hn; (try simp only [upd_none2, join_none_iff, ite_none, ne_eq] at hn); (try simp only [push_cast, reduceIte, nA, nB, nC, reduceCtorEq, nD, nE, nF, nG, iA, iB, iC, iD, *]))
    | (intro hc)
    | fail)
        exact ⟨_, _, Weak.less (by first | (repeat' (first | exact Heap.le_refl _ | refine hle_upd2 ?_ _ _ | (refine Heap.le_new ?_ ?_; rotate_left 1; focus (first | assumption | (simp only [upd_none2, upd_get, ne_eq, push_cast, reduceIte, nA, nB, nC, reduceCtorEq, nD, nE, nF, nG, iA, iB, iC, iD, *]; done) | (simp [upd_get, *]; done))))) | (simp only [push_cast, reduceIte, nA, nB, nC, reduceCtorEq, nD, nE, nF, nG, iA, iB, iC, iD, *])), by rw [idxS_some hx hpx hno], rfl⟩
    · have hlt' : ¬ (k : Int) < l.length := by omega
      repeat' (first
    | refine AW_seq_kn fun K hK => ?_
    | refine AW_block ?_
    | ((first
      | refine AW_region E0 ?_ | refine AW_ret ?_ | refine AW_exit ?_ | refine AW_skip ?_ | unfold retQ); try simp only [push_cast, reduceIte, nA, nB, nC, reduceCtorEq, nD, nE, nF, nG, iA, iB, iC, iD, *])
    | (apply AW_cond; (case hc => (simp only [push_cast, reduceIte, nA, nB, nC, reduceCtorEq, nD, nE, nF, nG, iA, iB, iC, iD]; rfl)); all_goals (intro hc; first | (exfalso; simp only [push_cast, reduceIte, nA, nB, nC, reduceCtorEq, nD, nE, nF, nG, iA, iB, iC, iD, *] at hc; done) | (exact absurd hc (by decide)) | (with_reducible (have hcc : true = true := hc); clear hcc hc) | (with_reducible (have hcc : false = false := hc); clear hcc hc) | ((try simp only [Bool.not_true, Bool.not_false] at hc); (first | (with_reducible (have hcc : true = true := hc); clear hcc hc) | (with_reducible (have hcc : false = false := hc); clear hcc hc) | (have hp := hc; (try simp only [decide_eq_true_eq, decide_eq_false_iff_not, bA, bB, bC, bD, bE, bF, bG, bH] at hp))))))
    | (refine Kn.go hK ?_; clear hK K)
    | refine Kn.go (by assumption) ?_
    | (intro n hn; (try simp only [upd_none2, join_none_iff, ite_none, ne_eq] at hn); (try simp only [push_cast, reduceIte, nA, nB, nC, reduceCtorEq, nD, nE, nF, nG, iA, iB, iC, iD, *]))
    | (intro hc)
    | fail)
      have hno' : ∀ (j : Nat) (y : α), l[j]? = some y → p y = false := fun j y hy => by
        have := (List.getElem?_eq_some_iff.1 hy).1
        exact hno j y (by omega) hy
      exact ⟨_, _, Weak.refl _ _, by rw [idxS_none hno'], rfl⟩
theorem idxO_nil (gf : FuncId) (caps : List AV) (ad : Option Addr) (H : Heap) :
    ACall Try.prog 23 [.c (.slice ad 0 0), .f (.func gf) [] caps] H fun r H' => r = .c (.int .i64 (-1)) ∧ H' = H := by
  refine ACall_of' Try.func23 rfl (Ent_of Try.func23 (by kernel_rfl) rfl) (by simp [Try.ntmps23]) ?_; simp only [Try.ntmps23, Try.results23]
  repeat' (first
    | refine AW_seq_kn fun K hK => ?_
    | refine AW_block ?_
    | ((first
      | refine AW_region E0 ?_ | refine AW_ret ?_ | refine AW_exit ?_ | refine AW_skip ?_ | unfold retQ); try simp only [push_cast, reduceIte, nA, nB, nC, reduceCtorEq, nD, nE, nF, nG, iA, iB, iC, iD, *])
    | (apply AW_cond; (case hc => (simp only [push_cast, reduceIte, nA, nB, nC, reduceCtorEq, nD, nE, nF, nG, iA, iB, iC, iD]; rfl)); all_goals (intro hc; first | (exfalso; simp only [push_cast, reduceIte, nA, nB, nC, reduceCtorEq, nD, nE, nF, nG, iA, iB, iC, iD, *] at hc; done) | (exact absurd hc (by decide)) | (with_reducible (have hcc : true = true := hc); clear hcc hc) | (with_reducible (have hcc : false = false := hc); clear hcc hc) | ((try simp only [Bool.not_true, Bool.not_false] at hc); (first | (with_reducible (have hcc : true = true := hc); clear hcc hc) | (with_reducible (have hcc : false = false := hc); clear hcc hc) | (have hp := hc; (try simp only [decide_eq_true_eq, decide_eq_false_iff_not, bA, bB, bC, bD, bE, bF, bG, bH] at hp))))))
    | (refine Kn.go hK ?_; clear hK K)
    | refine Kn.go (by assumption) ?_
    | (intro n hn; (try simp only [upd_none2, join_none_iff, ite_none, ne_eq] at hn); (try simp only [push_cast, reduceIte, nA, nB, nC, reduceCtorEq, nD, nE, nF, nG, iA, iB, iC, iD, *]))
    | (intro hc)
    | fail)
  refine AW_loopS (σ := Unit) (fun _ => True) (fun _ => [(0, .c (.slice ad 0 0)), (1, .f (.func gf) [] caps), (7, .c (.int .i64 0)), (8, .c (.int .i64 0))]) (fun _ => H) (fun _ => 0) () trivial ?_ (Heap.le_refl _) ?_
  · simp only [push_cast, reduceIte, nA, nB, nC, reduceCtorEq, nD, nE, nF, nG, iA, iB, iC, iD, *]
  · intro _ _
    repeat' (first
    | refine AW_seq_kn fun K hK => ?_
    | refine AW_block ?_
    | ((first
      | refine AW_region E0 ?_ | refine AW_ret ?_ | refine AW_exit ?_ | refine AW_skip ?_ | unfold retQ); try simp only [push_cast, reduceIte, nA, nB, nC, reduceCtorEq, nD, nE, nF, nG, iA, iB, iC, iD, *])
    | (apply AW_cond; (case hc => (simp only [push_cast, reduceIte, nA, nB, nC, reduceCtorEq, nD, nE, nF, nG, iA, iB, iC, iD]; rfl)); all_goals (intro hc; first | (exfalso; simp only [push_cast, reduceIte, nA, nB, nC, reduceCtorEq, nD, nE, nF, nG, iA, iB, iC, iD, *] at hc; done) | (exact absurd hc (by decide)) | (with_reducible (have hcc : true = true := hc); clear hcc hc) | (with_reducible (have hcc : false = false := hc); clear hcc hc) | ((try simp only [Bool.not_true, Bool.not_false] at hc); (first | (with_reducible (have hcc : true = true := hc); clear hcc hc) | (with_reducible (have hcc : false = false := hc); clear hcc hc) | (have hp := hc; (try simp only [decide_eq_true_eq, decide_eq_false_iff_not, bA, bB, bC, bD, bE, bF, bG, bH] at hp))))))
    | (refine Kn.go hK ?_; clear hK K)
    | refine Kn.go (by assumption) ?_
    | (intro n hn; (try simp only [upd_none2, join_none_iff, ite_none, ne_eq] at hn); (try simp only [push_cast, reduceIte, nA, nB, nC, reduceCtorEq, nD, nE, nF, nG, iA, iB, iC, iD, *]))
    | (intro hc)
    | fail)
    exact ⟨_, _, Weak.refl _ _, rfl, rfl⟩

theorem delO_s {α : Type} (enc : α → List AV) (he : ∀ x, (enc x).length = 4) (l : List α) (hl : l.length ≤ 1000000) (keep : α → Bool) (gf : FuncId) (caps : List AV) (H : Heap) {nb cap : Nat} (hH : H nb = some (.r 34 4 cap (l.map enc)))
    (hf : ∀ x ∈ l, ∀ G, (∀ m k, m ≠ nb → H m = some k → G m = some k) → ACall Try.prog gf ([.g (enc x)] ++ caps) G fun r H' => r = .c (.bool (!keep x)) ∧ H' = G) :
    ACall Try.prog 104 [.s nb 4 0 l.length cap, .f (.func gf) [] caps] H fun r H' => r = .s nb 4 0 (l.filter keep).length cap ∧ H' = upd H nb (.r 34 4 cap ((l.filter keep).map enc)) := by
  have hix := idxO enc he l hl (fun x => !keep x) gf caps H hH (fun x hx G hG => hf x hx G (fun m k _ hm => hG m k hm))
  refine ACall.blk (Ent_of Try.func104 (by kernel_rfl) rfl) hH fun hcap hmax _ _ => ?_
  rw [List.length_map] at hcap
  have hcapI : (l.length : Int) ≤ cap := by omega
  rcases idxS_cases (fun x => !keep x) l with ⟨e, hall⟩ | ⟨i, x0, e, hx0, hk0, hb⟩
  · rw [e] at hix
    have hfl : l.filter keep = l := List.filter_eq_self.2 (fun x hx => by simpa using hall x hx)
    rw [hfl]
    clear hall hf
    refine ACall_of' Try.func104 rfl (Ent_of Try.func104 (by kernel_rfl) rfl) (by simp [Try.ntmps104]) ?_; simp only [Try.ntmps104, Try.results104]
    repeat' (first
    | refine AW_seq_kn fun K hK => ?_
    | refine AW_block ?_
    | (refine does_call rfl rfl ?_; simp only [push_cast, reduceIte, nA, nB, nC, reduceCtorEq, nD, nE, nF, nG, iA, iB, iC, iD, *]; refine ACall.mono hix ?_; (rintro _ _ ⟨rfl, e2⟩; have e3 := e2.symm; clear e2; subst e3); (try simp only [push_cast, reduceIte, nA, nB, nC, reduceCtorEq, nD, nE, nF, nG, iA, iB, iC, iD, *]))
    | ((first
      | refine AW_region E0 ?_ | refine AW_ret ?_ | refine AW_exit ?_ | refine AW_skip ?_ | unfold retQ); try simp only [push_cast, reduceIte, nA, nB, nC, reduceCtorEq, nD, nE, nF, nG, iA, iB, iC, iD, *])
    | (apply AW_cond; (case hc => (simp only [push_cast, reduceIte, nA, nB, nC, reduceCtorEq, nD, nE, nF, nG, iA, iB, iC, iD]; rfl)); all_goals (intro hc; first | (exfalso; simp only [push_cast, reduceIte, nA, nB, nC, reduceCtorEq, nD, nE, nF, nG, iA, iB, iC, iD, *] at hc; done) | (exact absurd hc (by decide)) | (with_reducible (have hcc : true = true := hc); clear hcc hc) | (with_reducible (have hcc : false = false := hc); clear hcc hc) | ((try simp only [Bool.not_true, Bool.not_false] at hc); (first | (with_reducible (have hcc : true = true := hc); clear hcc hc) | (with_reducible (have hcc : false = false := hc); clear hcc hc) | (have hp := hc; (try simp only [decide_eq_true_eq, decide_eq_false_iff_not, bA, bB, bC, bD, bE, bF, bG, bH] at hp))))))
    | (refine Kn.go hK ?_; clear hK K)
    | refine Kn.go (by assumption) ?_
    | (intro n hn; (try simp only [upd_none2, join_none_iff, ite_none, ne_eq] at hn); (try simp only [push_cast, reduceIte, nA, nB, nC, reduceCtorEq, nD, nE, nF, nG, iA, iB, iC, iD, *]))
    | (intro hc)
    | fail)
    exact ⟨_, _, Weak.refl _ _, rfl, (upd_self hH).symm⟩
  · rw [e] at hix
    have hi := (List.getElem?_eq_some_iff.1 hx0).1
    obtain ⟨hst, hsl⟩ := DR.start (enc := enc) (keep := keep) (fun j y hj hy => by simpa using hb j y hj hy) hx0 (by simpa using hk0)
    have hiw : IntKind.i64.wrap ((i : Int) + 1) = (i : Int) + 1 := wrap_i64 (by omega) (by omega)
    have hi1 : ¬ (i : Int) = -1 := by omega
    have hE24 := tE23
    have hZ33 := tZ34
    clear hb hk0 hx0 e
    replace hst := Lib.hid hst
    refine ACall_of' Try.func104 rfl (Ent_of Try.func104 (by kernel_rfl) rfl) (by simp [Try.ntmps104]) ?_; simp only [Try.ntmps104, Try.results104]
    repeat' (first
    | refine AW_seq_kn fun K hK => ?_
    | refine AW_block ?_
    | (refine does_call rfl rfl ?_; simp only [push_cast, reduceIte, nA, nB, nC, reduceCtorEq, nD, nE, nF, nG, iA, iB, iC, iD, *]; refine ACall.mono hix ?_; (rintro _ _ ⟨rfl, e2⟩; have e3 := e2.symm; clear e2; subst e3); (try simp only [push_cast, reduceIte, nA, nB, nC, reduceCtorEq, nD, nE, nF, nG, iA, iB, iC, iD, *]))
    | ((first
      | refine AW_region E0 ?_ | refine AW_ret ?_ | refine AW_exit ?_ | refine AW_skip ?_ | unfold retQ); try simp only [push_cast, reduceIte, nA, nB, nC, reduceCtorEq, nD, nE, nF, nG, iA, iB, iC, iD, *])
    | (apply AW_cond; (case hc => (simp only [push_cast, reduceIte, nA, nB, nC, reduceCtorEq, nD, nE, nF, nG, iA, iB, iC, iD]; rfl)); all_goals (intro hc; first | (exfalso; simp only [push_cast, reduceIte, nA, nB, nC, reduceCtorEq, nD, nE, nF, nG, iA, iB, iC, iD, *] at hc; done) | (exact absurd hc (by decide)) | (with_reducible (have hcc : true = true := hc); clear hcc hc) | (with_reducible (have hcc : false = false := hc); clear hcc hc) | ((try simp only [Bool.not_true, Bool.not_false] at hc); (first | (with_reducible (have hcc : true = true := hc); clear hcc hc) | (with_reducible (have hcc : false = false := hc); clear hcc hc) | (have hp := hc; (try simp only [decide_eq_true_eq, decide_eq_false_iff_not, bA, bB, bC, bD, bE, bF, bG, bH] at hp))))))
    | (refine Kn.go hK ?_; clear hK K)
    | refine Kn.go (by assumption) ?_
    | (intro n hn; (try simp only [upd_none2, join_none_iff, ite_none, ne_eq] at hn); (try simp only [push_cast, reduceIte, nA, nB, nC, reduceCtorEq, nD, nE, nF, nG, iA, iB, iC, iD, *]))
    | (intro hc)
    | fail)
    clear hix
    refine AW_loopX (σ := List (List AV)) (l.length - (i + 1)) (fun k R => DR enc l keep (i + 1 + k) R) (fun k _ => [(0, .s nb 4 0 l.length cap), (1, .f (.func gf) [] caps), (5, ci ((l.take (i + 1 + k)).filter keep).length), (6, ci (i + 1 + k : Nat))]) (fun _ R => upd H nb (.r 34 4 cap R)) (l.map enc) (unhid hst) ?_ ?_ ?_ ?_
    · rw [Nat.add_zero, hsl]; ((first | trivial | (simp only [push_cast, reduceIte, nA, nB, nC, reduceCtorEq, nD, nE, nF, nG, iA, iB, iC, iD, *]; done)))
    · rw [upd_self hH]; exact Heap.le_refl _
    · intro k R hk hR
      have hjl : i + 1 + k < l.length := by omega
      have hj1 : i + 1 + (k + 1) = i + 1 + k + 1 := by omega
      rw [hj1]
      have hcl := DR.le l keep (i + 1 + k)
      generalize i + 1 + k = j at *
      obtain ⟨x, hx⟩ : ∃ x, l[j]? = some x := ⟨_, List.getElem?_eq_getElem hjl⟩
      have hRj : R[j]? = some (enc x) := by rw [hR.b j (Nat.le_refl _), List.getElem?_map, hx]; rfl
      have hRl := hR.n
      have hjI : (j : Int) < l.length := by omega
      have hjw : IntKind.i64.wrap ((j : Int) + 1) = (j : Int) + 1 := wrap_i64 (by omega) (by omega)
      have htk : List.take 4 (enc x) = enc x := List.take_of_length_le (Nat.le_of_eq (he x))
      have hex := he x
      have hcall := hf x (List.mem_of_getElem? hx)
      simp only [push_cast, reduceIte, nA, nB, nC, reduceCtorEq, nD, nE, nF, nG, iA, iB, iC, iD] at hcall
      clear hf
      cases hkx : keep x
      · rw [hkx] at hcall
        have hns := hR.step_no hx hkx
        have hne : ((l.take (j + 1)).filter keep).length = ((l.take j).filter keep).length := by rw [take_snoc hx, List.filter_append]; simp [hkx]
        rw [hne]
        generalize ((l.take j).filter keep).length = c at *
        replace hns := Lib.hid hns
        replace hR := Lib.hid hR
        repeat' (first
    | refine AW_seq_kn fun K hK => ?_
    | refine AW_block ?_
    | (refine does_call_f rfl (by simp only [push_cast, reduceIte, nA, nB, nC, reduceCtorEq, nD, nE, nF, nG, iA, iB, iC, iD]; rfl) ?_; simp only [push_cast, reduceIte, nA, nB, nC, reduceCtorEq, nD, nE, nF, nG, iA, iB, iC, iD, *]; refine ACall.mono (hcall _ ?hle) ?_; (case hle => (intro m kk hm hmm; have hmn := ne_old hmm; simp only [push_cast, reduceIte, nA, nB, nC, reduceCtorEq, nD, nE, nF, nG, iA, iB, iC, iD, upd_get, *])); (rintro _ _ ⟨rfl, e2⟩; have e3 := e2.symm; clear e2; subst e3); (try simp only [push_cast, reduceIte, nA, nB, nC, reduceCtorEq, nD, nE, nF, nG, iA, iB, iC, iD, *]))
    | ((first
      | refine AW_region E0 ?_ | refine AW_ret ?_ | refine AW_exit ?_ | refine AW_skip ?_ | unfold retQ); try simp only [push_cast, reduceIte, nA, nB, nC, reduceCtorEq, nD, nE, nF, nG, iA, iB, iC, iD, *])
    | (apply AW_cond; (case hc => (simp only [push_cast, reduceIte, nA, nB, nC, reduceCtorEq, nD, nE, nF, nG, iA, iB, iC, iD]; rfl)); all_goals (intro hc; first | (exfalso; simp only [push_cast, reduceIte, nA, nB, nC, reduceCtorEq, nD, nE, nF, nG, iA, iB, iC, iD, *] at hc; done) | (exact absurd hc (by decide)) | (with_reducible (have hcc : true = true := hc); clear hcc hc) | (with_reducible (have hcc : false = false := hc); clear hcc hc) | ((try simp only [Bool.not_true, Bool.not_false] at hc); (first | (with_reducible (have hcc : true = true := hc); clear hcc hc) | (with_reducible (have hcc : false = false := hc); clear hcc hc) | (have hp := hc; (try simp only [decide_eq_true_eq, decide_eq_false_iff_not, bA, bB, bC, bD, bE, bF, bG, bH] at hp))))))
    | (refine Kn.go hK ?_; clear hK K)
    | refine Kn.go (by assumption) ?_
    | (intro n hn; (try simp only [upd_none2, join_none_iff, ite_none, ne_eq] at hn); (try simp only [push_cast, reduceIte, nA, nB, nC, reduceCtorEq, nD, nE, nF, nG, iA, iB, iC, iD, *]))
    | (intro hc)
    | fail)
        exact ⟨R, unhid hns, by (first | trivial | (simp only [push_cast, reduceIte, nA, nB, nC, reduceCtorEq, nD, nE, nF, nG, iA, iB, iC, iD, *]; done)), by first | (repeat' (first | exact Heap.le_refl _ | refine hle_upd2 ?_ _ _ | (refine Heap.le_new ?_ ?_; rotate_left 1; focus (first | assumption | (simp only [upd_none2, upd_get, ne_eq, push_cast, reduceIte, nA, nB, nC, reduceCtorEq, nD, nE, nF, nG, iA, iB, iC, iD, *]; done) | (simp [upd_get, *]; done))))) | (simp only [push_cast, reduceIte, nA, nB, nC, reduceCtorEq, nD, nE, nF, nG, iA, iB, iC, iD, *])⟩
      · rw [hkx] at hcall
        obtain ⟨hns, hne⟩ := hR.step_yes hx hkx
        rw [hne]
        generalize ((l.take j).filter keep).length = c at *
        have hcj : c < l.length := by omega
        have hcI : (c : Int) < l.length := by omega
        have hcw : IntKind.i64.wrap ((c : Int) + 1) = (c : Int) + 1 := wrap_i64 (by omega) (by omega)
        obtain ⟨row, hrow⟩ : ∃ row, R[c]? = some row := ⟨_, List.getElem?_eq_getElem (by omega)⟩
        obtain ⟨y, rfl⟩ := hR.w row (List.mem_of_getElem? hrow)
        have hey := he y
        have hdy : List.drop 4 (enc y) = [] := List.drop_eq_nil_of_le (by rw [hey]; exact Nat.le_refl _)
        have hay : enc x ++ ([] : List AV) = enc x := List.append_nil _
        replace hns := Lib.hid hns
        replace hR := Lib.hid hR
        repeat' (first
    | refine AW_seq_kn fun K hK => ?_
    | refine AW_block ?_
    | (refine does_call_f rfl (by simp only [push_cast, reduceIte, nA, nB, nC, reduceCtorEq, nD, nE, nF, nG, iA, iB, iC, iD]; rfl) ?_; simp only [push_cast, reduceIte, nA, nB, nC, reduceCtorEq, nD, nE, nF, nG, iA, iB, iC, iD, *]; refine ACall.mono (hcall _ ?hle) ?_; (case hle => (intro m kk hm hmm; have hmn := ne_old hmm; simp only [push_cast, reduceIte, nA, nB, nC, reduceCtorEq, nD, nE, nF, nG, iA, iB, iC, iD, upd_get, *])); (rintro _ _ ⟨rfl, e2⟩; have e3 := e2.symm; clear e2; subst e3); (try simp only [push_cast, reduceIte, nA, nB, nC, reduceCtorEq, nD, nE, nF, nG, iA, iB, iC, iD, *]))
    | ((first
      | refine AW_region E0 ?_ | refine AW_ret ?_ | refine AW_exit ?_ | refine AW_skip ?_ | unfold retQ); try simp only [push_cast, reduceIte, nA, nB, nC, reduceCtorEq, nD, nE, nF, nG, iA, iB, iC, iD, *])
    | (apply AW_cond; (case hc => (simp only [push_cast, reduceIte, nA, nB, nC, reduceCtorEq, nD, nE, nF, nG, iA, iB, iC, iD]; rfl)); all_goals (intro hc; first | (exfalso; simp only [push_cast, reduceIte, nA, nB, nC, reduceCtorEq, nD, nE, nF, nG, iA, iB, iC, iD, *] at hc; done) | (exact absurd hc (by decide)) | (with_reducible (have hcc : true = true := hc); clear hcc hc) | (with_reducible (have hcc : false = false := hc); clear hcc hc) | ((try simp only [Bool.not_true, Bool.not_false] at hc); (first | (with_reducible (have hcc : true = true := hc); clear hcc hc) | (with_reducible (have hcc : false = false := hc); clear hcc hc) | (have hp := hc; (try simp only [decide_eq_true_eq, decide_eq_false_iff_not, bA, bB, bC, bD, bE, bF, bG, bH] at hp))))))
    | (refine Kn.go hK ?_; clear hK K)
    | refine Kn.go (by assumption) ?_
    | (intro n hn; (try simp only [upd_none2, join_none_iff, ite_none, ne_eq] at hn); (try simp only [push_cast, reduceIte, nA, nB, nC, reduceCtorEq, nD, nE, nF, nG, iA, iB, iC, iD, *]))
    | (intro hc)
    | fail)
        exact ⟨_, unhid hns, by (first | trivial | (simp only [push_cast, reduceIte, nA, nB, nC, reduceCtorEq, nD, nE, nF, nG, iA, iB, iC, iD, *]; done)), by (intro m kk hmm; by_cases e : m = nb; (subst e; rw [upd_same] at hmm ⊢; exact hmm); rw [upd_ne e] at hmm ⊢; have e2 : ¬ m = n := (by rintro rfl; rw [hn.2] at hmm; cases hmm); rw [upd_ne e2, upd_ne e]; exact hmm)⟩
    · intro R hR
      have hlen : i + 1 + (l.length - (i + 1)) = l.length := by omega
      rw [hlen] at hR ⊢
      obtain ⟨-, ht, -, -⟩ := hR
      rw [List.take_length] at ht ⊢
      have hfl := List.length_filter_le keep l
      refine AW_shrink (l.filter keep).length ?_
      rw [ht]
      have hml : ((l.filter keep).map enc).length = (l.filter keep).length := List.length_map _
      generalize l.filter keep = L at *
      have hLI : (L.length : Int) ≤ l.length := by omega
      have hLc : (L.length : Int) ≤ cap := by omega
      have hH2 := upd_same H nb (.r 34 4 cap (L.map enc))
      clear hf hst
      repeat' (first
    | refine AW_seq_kn fun K hK => ?_
    | refine AW_block ?_
    | (refine does_clear rfl rfl hH2 hE24 hZ33 rfl (by decide) (by omega) (by omega) ?_; (try simp only [push_cast, reduceIte, nA, nB, nC, reduceCtorEq, nD, nE, nF, nG, iA, iB, iC, iD, *]))
    | ((first
      | refine AW_region E0 ?_ | refine AW_ret ?_ | refine AW_exit ?_ | refine AW_skip ?_ | unfold retQ); try simp only [push_cast, reduceIte, nA, nB, nC, reduceCtorEq, nD, nE, nF, nG, iA, iB, iC, iD, *])
    | (apply AW_cond; (case hc => (simp only [push_cast, reduceIte, nA, nB, nC, reduceCtorEq, nD, nE, nF, nG, iA, iB, iC, iD]; rfl)); all_goals (intro hc; first | (exfalso; simp only [push_cast, reduceIte, nA, nB, nC, reduceCtorEq, nD, nE, nF, nG, iA, iB, iC, iD, *] at hc; done) | (exact absurd hc (by decide)) | (with_reducible (have hcc : true = true := hc); clear hcc hc) | (with_reducible (have hcc : false = false := hc); clear hcc hc) | ((try simp only [Bool.not_true, Bool.not_false] at hc); (first | (with_reducible (have hcc : true = true := hc); clear hcc hc) | (with_reducible (have hcc : false = false := hc); clear hcc hc) | (have hp := hc; (try simp only [decide_eq_true_eq, decide_eq_false_iff_not, bA, bB, bC, bD, bE, bF, bG, bH] at hp))))))
    | (refine Kn.go hK ?_; clear hK K)
    | refine Kn.go (by assumption) ?_
    | (intro n hn; (try simp only [upd_none2, join_none_iff, ite_none, ne_eq] at hn); (try simp only [push_cast, reduceIte, nA, nB, nC, reduceCtorEq, nD, nE, nF, nG, iA, iB, iC, iD, *]))
    | (intro hc)
    | fail)
      exact ⟨_, _, Weak.refl _ _, rfl, rfl⟩
theorem delO_nil (gf : FuncId) (caps : List AV) (ad : Option Addr) (H : Heap) :
    ACall Try.prog 104 [.c (.slice ad 0 0), .f (.func gf) [] caps] H fun r H' => r = .c (.slice ad 0 0) ∧ H' = H := by
  have hix := idxO_nil gf caps ad H
  refine ACall_of' Try.func104 rfl (Ent_of Try.func104 (by kernel_rfl) rfl) (by simp [Try.ntmps104]) ?_; simp only [Try.ntmps104, Try.results104]
  repeat' (first
    | refine AW_seq_kn fun K hK => ?_
    | refine AW_block ?_
    | (refine does_call rfl rfl ?_; simp only [push_cast, reduceIte, nA, nB, nC, reduceCtorEq, nD, nE, nF, nG, iA, iB, iC, iD, *]; refine ACall.mono hix ?_; (rintro _ _ ⟨rfl, e2⟩; have e3 := e2.symm; clear e2; subst e3); (try simp only [push_cast, reduceIte, nA, nB, nC, reduceCtorEq, nD, nE, nF, nG, iA, iB, iC, iD, *]))
    | ((first
      | refine AW_region E0 ?_ | refine AW_ret ?_ | refine AW_exit ?_ | refine AW_skip ?_ | unfold retQ); try simp only [push_cast, reduceIte, nA, nB, nC, reduceCtorEq, nD, nE, nF, nG, iA, iB, iC, iD, *])
    | (apply AW_cond; (case hc => (simp only [push_cast, reduceIte, nA, nB, nC, reduceCtorEq, nD, nE, nF, nG, iA, iB, iC, iD]; rfl)); all_goals (intro hc; first | (exfalso; simp only [push_cast, reduceIte, nA, nB, nC, reduceCtorEq, nD, nE, nF, nG, iA, iB, iC, iD, *] at hc; done) | (exact absurd hc (by decide)) | (with_reducible (have hcc : true = true := hc); clear hcc hc) | (with_reducible (have hcc : false = false := hc); clear hcc hc) | ((try simp only [Bool.not_true, Bool.not_false] at hc); (first | (with_reducible (have hcc : true = true := hc); clear hcc hc) | (with_reducible (have hcc : false = false := hc); clear hcc hc) | (have hp := hc; (try simp only [decide_eq_true_eq, decide_eq_false_iff_not, bA, bB, bC, bD, bE, bF, bG, bH] at hp))))))
    | (refine Kn.go hK ?_; clear hK K)
    | refine Kn.go (by assumption) ?_
    | (intro n hn; (try simp only [upd_none2, join_none_iff, ite_none, ne_eq] at hn); (try simp only [push_cast, reduceIte, nA, nB, nC, reduceCtorEq, nD, nE, nF, nG, iA, iB, iC, iD, *]))
    | (intro hc)
    | fail)
  exact ⟨_, _, Weak.refl _ _, rfl, rfl⟩

def keepP (own : Int) (p : Pk) : Bool := !(decide (p.fr = own) || decide (p.to = own))
theorem cut11_a (own : Int) (q1 : Nat) (x : Pk) (G : Heap) (h : G q1 = some (.r 3 1 1 [[.c (.int .i64 own)]])) : ACall Try.prog 105 [.g (Pk.av x), .p q1 1 0 0] G fun r H' => r = .c (.bool (!keepP own x)) ∧ H' = G := by
  have hne := ne_old h
  have hR : (!keepP own x) = (decide (x.fr = own) || decide (x.to = own)) := by unfold keepP; rw [Bool.not_not]
  rw [hR]
  clear hR
  refine ACall_of' Try.func105 rfl (Ent_of Try.func105 (by kernel_rfl) rfl) (by simp [Try.ntmps105]) ?_; simp only [Try.ntmps105, Try.results105]
  repeat' (first
    | refine AW_seq_kn fun K hK => ?_
    | refine AW_block ?_
    | ((first
      | refine AW_region E0 ?_ | refine AW_ret ?_ | refine AW_exit ?_ | refine AW_skip ?_ | unfold retQ); try simp only [push_cast, reduceIte, nA, nB, nC, reduceCtorEq, nD, nE, nF, nG, iA, iB, iC, iD, *])
    | (apply AW_cond; (case hc => (simp only [push_cast, reduceIte, nA, nB, nC, reduceCtorEq, nD, nE, nF, nG, iA, iB, iC, iD]; rfl)); all_goals (intro hc; first | (exfalso; simp only [push_cast, reduceIte, nA, nB, nC, reduceCtorEq, nD, nE, nF, nG, iA, iB, iC, iD, *] at hc; done) | (exact absurd hc (by decide)) | (with_reducible (have hcc : true = true := hc); clear hcc hc) | (with_reducible (have hcc : false = false := hc); clear hcc hc) | ((try simp only [Bool.not_true, Bool.not_false] at hc); (first | (with_reducible (have hcc : true = true := hc); clear hcc hc) | (with_reducible (have hcc : false = false := hc); clear hcc hc) | (have hp := hc; (try simp only [decide_eq_true_eq, decide_eq_false_iff_not, bA, bB, bC, bD, bE, bF, bG, bH] at hp))))))
    | (refine Kn.go hK ?_; clear hK K)
    | refine Kn.go (by assumption) ?_
    | (intro n hn; (try simp only [upd_none2, join_none_iff, ite_none, ne_eq] at hn); (try simp only [push_cast, reduceIte, nA, nB, nC, reduceCtorEq, nD, nE, nF, nG, iA, iB, iC, iD, *]))
    | (intro hc)
    | (apply ER_blk; (case hp => rfl); (case hb => (simp only [push_cast, reduceIte, nA, nB, nC, reduceCtorEq, nD, nE, nF, nG, iA, iB, iC, iD]; rfl)); (case hd => (simp only [push_cast, reduceIte, nA, nB, nC, reduceCtorEq, nD, nE, nF, nG, iA, iB, iC, iD]; done)); (case h => (intro hc; simp only [push_cast, reduceIte, nA, nB, nC, reduceCtorEq, nD, nE, nF, nG, iA, iB, iC, iD, *]; rfl)); simp only [push_cast, reduceIte, nA, nB, nC, reduceCtorEq, nD, nE, nF, nG, iA, iB, iC, iD, *])
    | (apply ER_guard; (case hb => (simp only [push_cast, reduceIte, nA, nB, nC, reduceCtorEq, nD, nE, nF, nG, iA, iB, iC, iD]; rfl)); all_goals ((intro hc; first | (exfalso; simp only [push_cast, reduceIte, nA, nB, nC, reduceCtorEq, nD, nE, nF, nG, iA, iB, iC, iD, *] at hc; done) | (exact absurd hc (by decide)) | (with_reducible (have hcc : true = true := hc); clear hcc hc) | (with_reducible (have hcc : false = false := hc); clear hcc hc) | ((try simp only [Bool.not_true, Bool.not_false] at hc); (first | (with_reducible (have hcc : true = true := hc); clear hcc hc) | (with_reducible (have hcc : false = false := hc); clear hcc hc) | (have hp := hc; (try simp only [decide_eq_true_eq, decide_eq_false_iff_not, bA, bB, bC, bD, bE, bF, bG, bH] at hp))))) <;> try simp only [push_cast, reduceIte, nA, nB, nC, reduceCtorEq, nD, nE, nF, nG, iA, iB, iC, iD, *]))
    | fail)
  all_goals exact ⟨_, _, Weak.less (by (simp only [push_cast, reduceIte, nA, nB, nC, reduceCtorEq, nD, nE, nF, nG, iA, iB, iC, iD, *])), rfl, rfl⟩
def cutF (own : Int) : Int := if nodeOk own = true then 0 else 2
def cutA (n : Nt) (own : Int) : Nt := ⟨n.sent, n.ps.filter (keepP own)⟩
def cutG (n : Nt) (own : Int) : Int := (n.ps.length : Int) - ((n.ps.filter (keepP own)).length : Int)
abbrev bxI (x : Int) : Blk := .r 3 1 1 [[.c (.int .i64 x)]]
theorem cut1_a (sent : Int) (l : List Pk) (hl : l.length ≤ 1000) (own : Int) (G : Heap) (q1 q2 : Nat) (r1 : G q1 = some (bxI own)) (r2 : G q2 = some (bxI 0)) (hq : ¬ q1 = q2)
    (x : AV) (B : Heap) (nb : Nat) (hnb : G nb = none) (hown : OwnL B x 34 4 (l.map Pk.av) (upd G nb (bxN sent x))) :
    ACall Try.prog 103 [.p nb 2 0 0, .p q1 1 0 0, .p q2 1 0 0] B fun r H' => r = .c (.int .i64 (cutF own)) ∧ ((¬ cutF own = 0 → Heap.le G H') ∧ (cutF own = 0 → ∃ x', OwnL H' x' 34 4 ((cutA ⟨sent, l⟩ own).ps.map Pk.av) (upd (upd G q2 (bxI (cutG ⟨sent, l⟩ own))) nb (bxN (cutA ⟨sent, l⟩ own).sent x')))) := by
  have hGB : Heap.le G B := Heap.le_trans (le_upd_new hnb) hown.le
  have k0 := hown.get (upd_same _ _ _)
  have k1 := hGB _ _ r1
  have k2 := hGB _ _ r2
  have ne1 : ¬ q1 = nb := by rintro rfl; rw [r1] at hnb; cases hnb
  have ne2 : ¬ q2 = nb := by rintro rfl; rw [r2] at hnb; cases hnb
  have ne2' : ¬ nb = q2 := fun h => ne2 h.symm
  have hcs := hown.cs
  have hlv := hown.len
  rw [List.length_map] at hlv
  cases hf : nodeOk own
  · have hE : cutF own = 2 := by unfold cutF; rw [hf]; rfl
    rw [hE]
    clear r1 r2 hE
    replace hGB := Lib.hid hGB
    clear hown
    refine ACall_of' Try.func103 rfl (Ent_of Try.func103 (by kernel_rfl) rfl) (by simp [Try.ntmps103]) ?_; simp only [Try.ntmps103, Try.results103]
    repeat' (first
    | refine AW_seq_kn fun K hK => ?_
    | refine AW_block ?_
    | ((first
      | refine AW_region E1 ?_ | refine AW_ret ?_ | refine AW_exit ?_ | refine AW_skip ?_ | unfold retQ); try simp only [push_cast, reduceIte, nA, nB, nC, reduceCtorEq, nD, nE, nF, nG, iA, iB, iC, iD, *])
    | (apply AW_cond; (case hc => (simp only [push_cast, reduceIte, nA, nB, nC, reduceCtorEq, nD, nE, nF, nG, iA, iB, iC, iD]; rfl)); all_goals (intro hc; first | (exfalso; simp only [push_cast, reduceIte, nA, nB, nC, reduceCtorEq, nD, nE, nF, nG, iA, iB, iC, iD, *] at hc; done) | (exact absurd hc (by decide)) | (with_reducible (have hcc : true = true := hc); clear hcc hc) | (with_reducible (have hcc : false = false := hc); clear hcc hc) | ((try simp only [Bool.not_true, Bool.not_false] at hc); (first | (with_reducible (have hcc : true = true := hc); clear hcc hc) | (with_reducible (have hcc : false = false := hc); clear hcc hc) | (have hp := hc; (try simp only [decide_eq_true_eq, decide_eq_false_iff_not, bA, bB, bC, bD, bE, bF, bG, bH] at hp))))))
    | (refine Kn.go hK ?_; clear hK K)
    | refine Kn.go (by assumption) ?_
    | (intro n hn; (try simp only [upd_none2, join_none_iff, ite_none, ne_eq] at hn); (try simp only [push_cast, reduceIte, nA, nB, nC, reduceCtorEq, nD, nE, nF, nG, iA, iB, iC, iD, *]))
    | (intro hc)
    | fail)
    exact ⟨_, _, Weak.refl _ _, rfl, unhid hGB⟩
  · have hE : cutF own = 0 := by unfold cutF; rw [hf]; rfl
    have hfl := List.length_filter_le (keepP own) l
    have hgw : IntKind.i64.wrap ((l.length : Int) - ((l.filter (keepP own)).length : Int)) = cutG ⟨sent, l⟩ own := by rw [wrap_i64 (by omega) (by omega)]; rfl
    rw [hE]
    simp only [cutA]
    generalize cutG ⟨sent, l⟩ own = gone at *
    rcases hown.split with ⟨ad, rfl, e0, e1⟩ | ⟨m, cap, rfl, e1, hm⟩
    · obtain rfl := List.map_eq_nil_iff.1 e0
      have hd := delO_nil 105 [.p q1 1 0 0] ad B
      have hown2 := hown.turn (show upd G nb (bxN sent (.c (.slice ad 0 0))) q2 = some (bxI 0) by rw [upd_ne ne2]; exact r2) (bxI gone)
      rw [upd_comm ne2'] at hown2
      have hgw0 : IntKind.i64.wrap (0 - 0) = gone := by simpa using hgw
      have hself : upd B nb (.r 25 2 1 [[.c (.int .u64 sent), .c (.slice ad 0 0)]]) = B := upd_self k0
      clear hgw
      clear r1 r2 hE e0 e1 hown hfl hGB
      replace hown2 := Lib.hid hown2
      refine ACall_of' Try.func103 rfl (Ent_of Try.func103 (by kernel_rfl) rfl) (by simp [Try.ntmps103]) ?_; simp only [Try.ntmps103, Try.results103]
      repeat' (first
    | refine AW_seq_kn fun K hK => ?_
    | refine AW_block ?_
    | (refine does_call rfl rfl ?_; simp only [push_cast, reduceIte, nA, nB, nC, reduceCtorEq, nD, nE, nF, nG, iA, iB, iC, iD, *]; refine ACall.mono hd ?_; (rintro _ _ ⟨rfl, e2⟩; have e3 := e2.symm; clear e2; subst e3); (try simp only [push_cast, reduceIte, nA, nB, nC, reduceCtorEq, nD, nE, nF, nG, iA, iB, iC, iD, *]))
    | ((first
      | refine AW_region E1 ?_ | refine AW_ret ?_ | refine AW_exit ?_ | refine AW_skip ?_ | unfold retQ); try simp only [push_cast, reduceIte, nA, nB, nC, reduceCtorEq, nD, nE, nF, nG, iA, iB, iC, iD, *])
    | (apply AW_cond; (case hc => (simp only [push_cast, reduceIte, nA, nB, nC, reduceCtorEq, nD, nE, nF, nG, iA, iB, iC, iD]; rfl)); all_goals (intro hc; first | (exfalso; simp only [push_cast, reduceIte, nA, nB, nC, reduceCtorEq, nD, nE, nF, nG, iA, iB, iC, iD, *] at hc; done) | (exact absurd hc (by decide)) | (with_reducible (have hcc : true = true := hc); clear hcc hc) | (with_reducible (have hcc : false = false := hc); clear hcc hc) | ((try simp only [Bool.not_true, Bool.not_false] at hc); (first | (with_reducible (have hcc : true = true := hc); clear hcc hc) | (with_reducible (have hcc : false = false := hc); clear hcc hc) | (have hp := hc; (try simp only [decide_eq_true_eq, decide_eq_false_iff_not, bA, bB, bC, bD, bE, bF, bG, bH] at hp))))))
    | (refine Kn.go hK ?_; clear hK K)
    | refine Kn.go (by assumption) ?_
    | (intro n hn; (try simp only [upd_none2, join_none_iff, ite_none, ne_eq] at hn); (try simp only [push_cast, reduceIte, nA, nB, nC, reduceCtorEq, nD, nE, nF, nG, iA, iB, iC, iD, *]))
    | (intro hc)
    | fail)
      exact ⟨_, _, Weak.refl _ _, rfl, _, unhid hown2⟩
    · rw [List.length_map] at *
      have hmb : ¬ m = nb := by rintro rfl; rw [upd_same] at hm; cases hm
      have hbm : ¬ nb = m := fun h => hmb h.symm
      have hm1 : ¬ q1 = m := by rintro rfl; rw [upd_ne ne1, r1] at hm; cases hm
      have hm2 : ¬ q2 = m := by rintro rfl; rw [upd_ne ne2, r2] at hm; cases hm
      have hm2' : ¬ m = q2 := fun h => hm2 h.symm
      have hm1' : ¬ m = q1 := fun h => hm1 h.symm
      have km : B m = some (.r 34 4 cap (l.map Pk.av)) := by rw [e1]; exact upd_same _ _ _
      have hd := delO_s Pk.av (fun _ => rfl) l (by omega) (keepP own) 105 [.p q1 1 0 0] B km (fun x hx G hG => cut11_a own q1 x G (hG q1 _ hm1 k1))
      have hmq : upd (upd G q2 (bxI gone)) nb (bxN sent (.s m 4 0 (l.filter (keepP own)).length cap)) m = none := by
        rw [upd_ne hmb, upd_ne hm2']; rwa [upd_ne hmb] at hm
      have hEq : upd (upd (upd B m (.r 34 4 cap ((l.filter (keepP own)).map Pk.av))) nb (bxN sent (.s m 4 0 (l.filter (keepP own)).length cap))) q2 (bxI gone) = upd (upd (upd G q2 (bxI gone)) nb (bxN sent (.s m 4 0 (l.filter (keepP own)).length cap))) m (.r 34 4 cap ((l.filter (keepP own)).map Pk.av)) := by
        rw [e1]
        funext q
        simp only [upd]
        by_cases a1 : q = q2
        · subst a1; simp [ne2, hm2]
        · by_cases a2 : q = nb
          · subst a2; simp [a1, hbm]
          · by_cases a3 : q = m
            · subst a3; simp [a1, a2]
            · simp [a1, a2, a3]
      have hown2 : OwnL (upd (upd (upd B m (.r 34 4 cap ((l.filter (keepP own)).map Pk.av))) nb (bxN sent (.s m 4 0 (l.filter (keepP own)).length cap))) q2 (bxI gone)) (.s m 4 0 (l.filter (keepP own)).length cap) 34 4 ((l.filter (keepP own)).map Pk.av) (upd (upd G q2 (bxI gone)) nb (bxN sent (.s m 4 0 (l.filter (keepP own)).length cap))) := by
        rw [hEq]; exact OwnL.at (by simp) hmq
      clear hEq hmq e1 hm hE hown hGB r1 r2 hfl
      generalize l.filter (keepP own) = L at *
      replace hown2 := Lib.hid hown2
      refine ACall_of' Try.func103 rfl (Ent_of Try.func103 (by kernel_rfl) rfl) (by simp [Try.ntmps103]) ?_; simp only [Try.ntmps103, Try.results103]
      repeat' (first
    | refine AW_seq_kn fun K hK => ?_
    | refine AW_block ?_
    | (refine does_call rfl rfl ?_; simp only [push_cast, reduceIte, nA, nB, nC, reduceCtorEq, nD, nE, nF, nG, iA, iB, iC, iD, *]; refine ACall.mono hd ?_; (rintro _ _ ⟨rfl, e2⟩; have e3 := e2.symm; clear e2; subst e3); (try simp only [push_cast, reduceIte, nA, nB, nC, reduceCtorEq, nD, nE, nF, nG, iA, iB, iC, iD, *]))
    | ((first
      | refine AW_region E1 ?_ | refine AW_ret ?_ | refine AW_exit ?_ | refine AW_skip ?_ | unfold retQ); try simp only [push_cast, reduceIte, nA, nB, nC, reduceCtorEq, nD, nE, nF, nG, iA, iB, iC, iD, *])
    | (apply AW_cond; (case hc => (simp only [push_cast, reduceIte, nA, nB, nC, reduceCtorEq, nD, nE, nF, nG, iA, iB, iC, iD]; rfl)); all_goals (intro hc; first | (exfalso; simp only [push_cast, reduceIte, nA, nB, nC, reduceCtorEq, nD, nE, nF, nG, iA, iB, iC, iD, *] at hc; done) | (exact absurd hc (by decide)) | (with_reducible (have hcc : true = true := hc); clear hcc hc) | (with_reducible (have hcc : false = false := hc); clear hcc hc) | ((try simp only [Bool.not_true, Bool.not_false] at hc); (first | (with_reducible (have hcc : true = true := hc); clear hcc hc) | (with_reducible (have hcc : false = false := hc); clear hcc hc) | (have hp := hc; (try simp only [decide_eq_true_eq, decide_eq_false_iff_not, bA, bB, bC, bD, bE, bF, bG, bH] at hp))))))
    | (refine Kn.go hK ?_; clear hK K)
    | refine Kn.go (by assumption) ?_
    | (intro n hn; (try simp only [upd_none2, join_none_iff, ite_none, ne_eq] at hn); (try simp only [push_cast, reduceIte, nA, nB, nC, reduceCtorEq, nD, nE, nF, nG, iA, iB, iC, iD, *]))
    | (intro hc)
    | fail)
      exact ⟨_, _, Weak.refl _ _, rfl, _, unhid hown2⟩
end Go.Proofs.Ytiepahhneagjhaa
