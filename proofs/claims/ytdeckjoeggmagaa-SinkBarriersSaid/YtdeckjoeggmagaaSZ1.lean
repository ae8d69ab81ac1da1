/- Walks: a sink is told of names. -/
import Derived.Test.YtdeckjoeggmagaaSK
import Derived.Test.YtdeckjoeggmagaaSI
namespace Go.Proofs.Ytdeckjoeggmagaa
open Go.RowKit
open Nat renaming reduceEqDiff → nA, reduceLT → nB, reduceLeDiff → nC, reduceAdd → nD, reduceMul → nE, reduceSub → nF, reduceBEq → nG
open Int renaming reduceToNat → iA, reduceLT → iB, reduceLE → iC, reduceEq → iD
open Bool renaming and_eq_true → bA, or_eq_true → bB, or_eq_false_iff → bC, and_eq_false_iff → bD, not_eq_true' → bE, not_eq_false' → bF, not_true → bG, not_false → bH
set_option linter.all false
set_option maxHeartbeats 4000000
attribute [local irreducible] AW Does ACall tE tS tB tZ
set_option maxRecDepth 5000

theorem idxNO {α : Type} (enc : α → List AV) (he : ∀ x, (enc x).length = 3) (l : List α) (hl : l.length ≤ 1000000) (p : α → Bool) (gf : FuncId) (caps : List AV) (H : Heap) {n cap : Nat} {ty : TypeId} (hH : H n = some (.r ty 3 cap (l.map enc)))
    (hf : ∀ x ∈ l, ∀ G, Heap.le H G → ACall Try.prog gf ([.g (enc x)] ++ caps) G fun r H' => r = .c (.bool (p x)) ∧ H' = G) :
    ACall Try.prog 118 [.s n 3 0 l.length cap, .f (.func gf) [] caps] H fun r H' => r = .c (.int .i64 (idxS p l)) ∧ H' = H := by
  refine ACall_of' Try.func118 rfl (Ent_of Try.func118 (by kernel_rfl) rfl) (by simp [Try.ntmps118]) ?_; simp only [Try.ntmps118, Try.results118]
  repeat' (first
    | refine AW_seq_kn fun K hK => ?_
    | refine AW_block ?_
    | ((first
      | refine AW_region E0 ?_ | refine AW_ret ?_ | refine AW_exit ?_ | refine AW_skip ?_ | unfold retQ); try simp only [push_cast, seval, *])
    | (apply AW_cond; (case hc => (simp only [push_cast, seval]; rfl)); all_goals (intro hc; first | (exfalso; simp only [push_cast, seval, *] at hc; done) | (exact absurd hc (by decide)) | ((try first | rw [Bool.not_true] at hc | rw [Bool.not_false] at hc); first | (with_reducible replace hc := tTT hc); clear hc | (with_reducible replace hc := tFF hc); clear hc | (have hp := hc; try simp only [decide_eq_true_eq, decide_eq_false_iff_not, bA, bB, bC, bD, bE, bF, bG, bH] at hp))))
    | (refine Kn.go hK ?_; clear hK K)
    | refine Kn.go (by assumption) ?_
    | (intro n hn; (try simp only [upd_none2, join_none_iff, ite_none, ne_eq] at hn); (try simp only [push_cast, seval, *]))
    | (intro hc)
    | fail)
  refine AW_loopS (fun k : Nat => k ≤ l.length ∧ ∀ j y, j < k → l[j]? = some y → p y = false) (fun k => [(0, .s n 3 0 l.length cap), (1, .f (.func gf) [] caps), (7, .c (.int .i64 l.length)), (8, .c (.int .i64 k))]) (fun _ => H) (fun k => l.length - k) 0 ⟨Nat.zero_le _, fun j y hj => by omega⟩ ?_ (Heap.le_refl _) ?_
  · simp only [push_cast, seval, *]
  · rintro k ⟨hk, hno⟩
    by_cases hlt : k < l.length
    · have hx := List.getElem?_eq_getElem hlt
      generalize l[k] = x at hx
      have hlt' : (k : Int) < l.length := by omega
      have htk : List.take 3 (enc x) = enc x := List.take_of_length_le (Nat.le_of_eq (he x))
      have hex := he x
      have hwk : IntKind.i64.wrap ((k : Int) + 1) = (k : Int) + 1 := wrap_i64 (by omega) (by omega)
      have hcall := hf x (List.mem_of_getElem? hx)
      simp only [push_cast, seval] at hcall
      clear hf
      cases hpx : p x
      · rw [hpx] at hcall
        repeat' (first
    | refine AW_seq_kn fun K hK => ?_
    | refine AW_block ?_
    | (refine does_call_f rfl (by simp only [push_cast, seval]; rfl) ?_; simp only [push_cast, seval, *]; refine ACall.mono (hcall _ ?hle) ?_; (case hle => (repeat' (first | exact Heap.le_refl _ | refine hle_upd2 ?_ _ _ | (refine Heap.le_new ?_ ?_; rotate_left 1; focus (first | assumption | (simp only [upd_none2, upd_get, ne_eq, push_cast, seval, *]; done) | (simp [upd_get, *]; done)))))); (rintro _ _ ⟨rfl, e2⟩; have e3 := e2.symm; clear e2; subst e3); (try simp only [push_cast, seval, *]))
    | ((first
      | refine AW_region E0 ?_ | refine AW_ret ?_ | refine AW_exit ?_ | refine AW_skip ?_ | unfold retQ); try simp only [push_cast, seval, *])
    | (apply AW_cond; (case hc => (simp only [push_cast, seval]; rfl)); all_goals (intro hc; first | (exfalso; simp only [push_cast, seval, *] at hc; done) | (exact absurd hc (by decide)) | ((try first | rw [Bool.not_true] at hc | rw [Bool.not_false] at hc); first | (with_reducible replace hc := tTT hc); clear hc | (with_reducible replace hc := tFF hc); clear hc | (have hp := hc; try simp only [decide_eq_true_eq, decide_eq_false_iff_not, bA, bB, bC, bD, bE, bF, bG, bH] at hp))))
    | (refine Kn.go hK ?_; clear hK K)
    | refine Kn.go (by assumption) ?_
    | (intro n hn; (try simp only [upd_none2, join_none_iff, ite_none, ne_eq] at hn); (try simp only [push_cast, seval, *]))
    | (intro hc)
    | fail)
        refine ⟨k + 1, ⟨by omega, fun j y hj hy => ?_⟩, by simp only [push_cast, seval, *], by omega⟩
        by_cases e : j = k
        · subst e; rw [hx] at hy; cases hy; exact hpx
        · exact hno j y (by omega) hy
      · rw [hpx] at hcall
        repeat' (first
    | refine AW_seq_kn fun K hK => ?_
    | refine AW_block ?_
    | (refine does_call_f rfl (by simp only [push_cast, seval]; rfl) ?_; simp only [push_cast, seval, *]; refine ACall.mono (hcall _ ?hle) ?_; (case hle => (repeat' (first | exact Heap.le_refl _ | refine hle_upd2 ?_ _ _ | (refine Heap.le_new ?_ ?_; rotate_left 1; focus (first | assumption | (simp only [upd_none2, upd_get, ne_eq, push_cast, seval, *]; done) | (simp [upd_get, *]; done)))))); (rintro _ _ ⟨rfl, e2⟩; have e3 := e2.symm; clear e2; subst e3); (try simp only [push_cast, seval, *]))
    | ((first
      | refine AW_region E0 ?_ | refine AW_ret ?_ | refine AW_exit ?_ | refine AW_skip ?_ | unfold retQ); try simp only [push_cast, seval, *])
    | (apply AW_cond; (case hc => (simp only [push_cast, seval]; rfl)); all_goals (intro hc; first | (exfalso; simp only [push_cast, seval, *] at hc; done) | (exact absurd hc (by decide)) | ((try first | rw [Bool.not_true] at hc | rw [Bool.not_false] at hc); first | (with_reducible replace hc := tTT hc); clear hc | (with_reducible replace hc := tFF hc); clear hc | (have hp := hc; try simp only [decide_eq_true_eq, decide_eq_false_iff_not, bA, bB, bC, bD, bE, bF, bG, bH] at hp))))
    | (refine Kn.go hK ?_; clear hK K)
    | refine Kn.go (by assumption) ?_
    | (intro n hn; (try simp only [upd_none2, join_none_iff, ite_none, ne_eq] at hn); (try simp only [push_cast, seval, *]))
    | (intro hc)
    | fail)
        exact ⟨_, _, Weak.less (by first | (repeat' (first | exact Heap.le_refl _ | refine hle_upd2 ?_ _ _ | (refine Heap.le_new ?_ ?_; rotate_left 1; focus (first | assumption | (simp only [upd_none2, upd_get, ne_eq, push_cast, seval, *]; done) | (simp [upd_get, *]; done))))) | (simp only [push_cast, seval, *])), by rw [idxS_some hx hpx hno], rfl⟩
    · have hlt' : ¬ (k : Int) < l.length := by omega
      repeat' (first
    | refine AW_seq_kn fun K hK => ?_
    | refine AW_block ?_
    | ((first
      | refine AW_region E0 ?_ | refine AW_ret ?_ | refine AW_exit ?_ | refine AW_skip ?_ | unfold retQ); try simp only [push_cast, seval, *])
    | (apply AW_cond; (case hc => (simp only [push_cast, seval]; rfl)); all_goals (intro hc; first | (exfalso; simp only [push_cast, seval, *] at hc; done) | (exact absurd hc (by decide)) | ((try first | rw [Bool.not_true] at hc | rw [Bool.not_false] at hc); first | (with_reducible replace hc := tTT hc); clear hc | (with_reducible replace hc := tFF hc); clear hc | (have hp := hc; try simp only [decide_eq_true_eq, decide_eq_false_iff_not, bA, bB, bC, bD, bE, bF, bG, bH] at hp))))
    | (refine Kn.go hK ?_; clear hK K)
    | refine Kn.go (by assumption) ?_
    | (intro n hn; (try simp only [upd_none2, join_none_iff, ite_none, ne_eq] at hn); (try simp only [push_cast, seval, *]))
    | (intro hc)
    | fail)
      have hno' : ∀ (j : Nat) (y : α), l[j]? = some y → p y = false := fun j y hy => by
        have := (List.getElem?_eq_some_iff.1 hy).1
        exact hno j y (by omega) hy
      exact ⟨_, _, Weak.refl _ _, by rw [idxS_none hno'], rfl⟩
theorem idxNO_nil (gf : FuncId) (caps : List AV) (ad : Option Addr) (H : Heap) :
    ACall Try.prog 118 [.c (.slice ad 0 0), .f (.func gf) [] caps] H fun r H' => r = .c (.int .i64 (-1)) ∧ H' = H := by
  refine ACall_of' Try.func118 rfl (Ent_of Try.func118 (by kernel_rfl) rfl) (by simp [Try.ntmps118]) ?_; simp only [Try.ntmps118, Try.results118]
  repeat' (first
    | refine AW_seq_kn fun K hK => ?_
    | refine AW_block ?_
    | ((first
      | refine AW_region E0 ?_ | refine AW_ret ?_ | refine AW_exit ?_ | refine AW_skip ?_ | unfold retQ); try simp only [push_cast, seval, *])
    | (apply AW_cond; (case hc => (simp only [push_cast, seval]; rfl)); all_goals (intro hc; first | (exfalso; simp only [push_cast, seval, *] at hc; done) | (exact absurd hc (by decide)) | ((try first | rw [Bool.not_true] at hc | rw [Bool.not_false] at hc); first | (with_reducible replace hc := tTT hc); clear hc | (with_reducible replace hc := tFF hc); clear hc | (have hp := hc; try simp only [decide_eq_true_eq, decide_eq_false_iff_not, bA, bB, bC, bD, bE, bF, bG, bH] at hp))))
    | (refine Kn.go hK ?_; clear hK K)
    | refine Kn.go (by assumption) ?_
    | (intro n hn; (try simp only [upd_none2, join_none_iff, ite_none, ne_eq] at hn); (try simp only [push_cast, seval, *]))
    | (intro hc)
    | fail)
  refine AW_loopS (σ := Unit) (fun _ => True) (fun _ => [(0, .c (.slice ad 0 0)), (1, .f (.func gf) [] caps), (7, .c (.int .i64 0)), (8, .c (.int .i64 0))]) (fun _ => H) (fun _ => 0) () trivial ?_ (Heap.le_refl _) ?_
  · simp only [push_cast, seval, *]
  · intro _ _
    repeat' (first
    | refine AW_seq_kn fun K hK => ?_
    | refine AW_block ?_
    | ((first
      | refine AW_region E0 ?_ | refine AW_ret ?_ | refine AW_exit ?_ | refine AW_skip ?_ | unfold retQ); try simp only [push_cast, seval, *])
    | (apply AW_cond; (case hc => (simp only [push_cast, seval]; rfl)); all_goals (intro hc; first | (exfalso; simp only [push_cast, seval, *] at hc; done) | (exact absurd hc (by decide)) | ((try first | rw [Bool.not_true] at hc | rw [Bool.not_false] at hc); first | (with_reducible replace hc := tTT hc); clear hc | (with_reducible replace hc := tFF hc); clear hc | (have hp := hc; try simp only [decide_eq_true_eq, decide_eq_false_iff_not, bA, bB, bC, bD, bE, bF, bG, bH] at hp))))
    | (refine Kn.go hK ?_; clear hK K)
    | refine Kn.go (by assumption) ?_
    | (intro n hn; (try simp only [upd_none2, join_none_iff, ite_none, ne_eq] at hn); (try simp only [push_cast, seval, *]))
    | (intro hc)
    | fail)
    exact ⟨_, _, Weak.refl _ _, rfl, rfl⟩

theorem delNO_s {α : Type} (enc : α → List AV) (he : ∀ x, (enc x).length = 3) (l : List α) (hl : l.length ≤ 1000000) (keep : α → Bool) (gf : FuncId) (caps : List AV) (H : Heap) {nb cap : Nat} (hH : H nb = some (.r 26 3 cap (l.map enc)))
    (hf : ∀ x ∈ l, ∀ G, (∀ m k, m ≠ nb → H m = some k → G m = some k) → ACall Try.prog gf ([.g (enc x)] ++ caps) G fun r H' => r = .c (.bool (!keep x)) ∧ H' = G) :
    ACall Try.prog 92 [.s nb 3 0 l.length cap, .f (.func gf) [] caps] H fun r H' => r = .s nb 3 0 (l.filter keep).length cap ∧ H' = upd H nb (.r 26 3 cap ((l.filter keep).map enc)) := by
  have hix := idxNO enc he l hl (fun x => !keep x) gf caps H hH (fun x hx G hG => hf x hx G (fun m k _ hm => hG m k hm))
  refine ACall.blk (Ent_of Try.func92 (by kernel_rfl) rfl) hH fun hcap hmax _ _ => ?_
  rw [List.length_map] at hcap
  have hcapI : (l.length : Int) ≤ cap := by omega
  rcases idxS_cases (fun x => !keep x) l with ⟨e, hall⟩ | ⟨i, x0, e, hx0, hk0, hb⟩
  · rw [e] at hix
    have hfl : l.filter keep = l := List.filter_eq_self.2 (fun x hx => by simpa using hall x hx)
    rw [hfl]
    clear hall hf
    refine ACall_of' Try.func92 rfl (Ent_of Try.func92 (by kernel_rfl) rfl) (by simp [Try.ntmps92]) ?_; simp only [Try.ntmps92, Try.results92]
    repeat' (first
    | refine AW_seq_kn fun K hK => ?_
    | refine AW_block ?_
    | (refine does_call rfl rfl ?_; simp only [push_cast, seval, *]; refine ACall.mono hix ?_; (rintro _ _ ⟨rfl, e2⟩; have e3 := e2.symm; clear e2; subst e3); (try simp only [push_cast, seval, *]))
    | ((first
      | refine AW_region E0 ?_ | refine AW_ret ?_ | refine AW_exit ?_ | refine AW_skip ?_ | unfold retQ); try simp only [push_cast, seval, *])
    | (apply AW_cond; (case hc => (simp only [push_cast, seval]; rfl)); all_goals (intro hc; first | (exfalso; simp only [push_cast, seval, *] at hc; done) | (exact absurd hc (by decide)) | ((try first | rw [Bool.not_true] at hc | rw [Bool.not_false] at hc); first | (with_reducible replace hc := tTT hc); clear hc | (with_reducible replace hc := tFF hc); clear hc | (have hp := hc; try simp only [decide_eq_true_eq, decide_eq_false_iff_not, bA, bB, bC, bD, bE, bF, bG, bH] at hp))))
    | (refine Kn.go hK ?_; clear hK K)
    | refine Kn.go (by assumption) ?_
    | (intro n hn; (try simp only [upd_none2, join_none_iff, ite_none, ne_eq] at hn); (try simp only [push_cast, seval, *]))
    | (intro hc)
    | fail)
    exact ⟨_, _, Weak.refl _ _, rfl, (upd_self hH).symm⟩
  · rw [e] at hix
    have hi := (List.getElem?_eq_some_iff.1 hx0).1
    obtain ⟨hst, hsl⟩ := DR.start (enc := enc) (keep := keep) (fun j y hj hy => by simpa using hb j y hj hy) hx0 (by simpa using hk0)
    have hiw : IntKind.i64.wrap ((i : Int) + 1) = (i : Int) + 1 := wrap_i64 (by omega) (by omega)
    have hi1 : ¬ (i : Int) = -1 := by omega
    have hE24 := tE22
    have hZ33 := tZ26
    clear hb hk0 hx0 e
    replace hst := Lib.hid hst
    refine ACall_of' Try.func92 rfl (Ent_of Try.func92 (by kernel_rfl) rfl) (by simp [Try.ntmps92]) ?_; simp only [Try.ntmps92, Try.results92]
    repeat' (first
    | refine AW_seq_kn fun K hK => ?_
    | refine AW_block ?_
    | (refine does_call rfl rfl ?_; simp only [push_cast, seval, *]; refine ACall.mono hix ?_; (rintro _ _ ⟨rfl, e2⟩; have e3 := e2.symm; clear e2; subst e3); (try simp only [push_cast, seval, *]))
    | ((first
      | refine AW_region E0 ?_ | refine AW_ret ?_ | refine AW_exit ?_ | refine AW_skip ?_ | unfold retQ); try simp only [push_cast, seval, *])
    | (apply AW_cond; (case hc => (simp only [push_cast, seval]; rfl)); all_goals (intro hc; first | (exfalso; simp only [push_cast, seval, *] at hc; done) | (exact absurd hc (by decide)) | ((try first | rw [Bool.not_true] at hc | rw [Bool.not_false] at hc); first | (with_reducible replace hc := tTT hc); clear hc | (with_reducible replace hc := tFF hc); clear hc | (have hp := hc; try simp only [decide_eq_true_eq, decide_eq_false_iff_not, bA, bB, bC, bD, bE, bF, bG, bH] at hp))))
    | (refine Kn.go hK ?_; clear hK K)
    | refine Kn.go (by assumption) ?_
    | (intro n hn; (try simp only [upd_none2, join_none_iff, ite_none, ne_eq] at hn); (try simp only [push_cast, seval, *]))
    | (intro hc)
    | fail)
    clear hix
    refine AW_loopX (σ := List (List AV)) (l.length - (i + 1)) (fun k R => DR enc l keep (i + 1 + k) R) (fun k _ => [(0, .s nb 3 0 l.length cap), (1, .f (.func gf) [] caps), (5, ci ((l.take (i + 1 + k)).filter keep).length), (6, ci (i + 1 + k : Nat))]) (fun _ R => upd H nb (.r 26 3 cap R)) (l.map enc) (unhid hst) ?_ ?_ ?_ ?_
    · rw [Nat.add_zero, hsl]; ((first | trivial | (simp only [push_cast, seval, *]; done)))
    · rw [upd_self hH]; exact Heap.le_refl _
    · intro k R hk hR
      have hjl : i + 1 + k < l.length := by omega
      have hj1 : i + 1 + (k + 1) = i + 1 + k + 1 := by omega
      rw [hj1]
      have hcl := DR.le l keep (i + 1 + k)
      generalize i + 1 + k = j at *
      obtain ⟨x, hx⟩ : ∃ x, l[j]? = some x := ⟨_, List.getElem?_eq_getElem hjl⟩
      have hRj : R[j]? = some (enc x) := by rw [hR.b j (Nat.le_refl _), List.getElem?_map, hx]; rfl
      have hRl := hR.n
      have hjI : (j : Int) < l.length := by omega
      have hjw : IntKind.i64.wrap ((j : Int) + 1) = (j : Int) + 1 := wrap_i64 (by omega) (by omega)
      have htk : List.take 3 (enc x) = enc x := List.take_of_length_le (Nat.le_of_eq (he x))
      have hex := he x
      have hcall := hf x (List.mem_of_getElem? hx)
      simp only [push_cast, seval] at hcall
      clear hf
      cases hkx : keep x
      · rw [hkx] at hcall
        have hns := hR.step_no hx hkx
        have hne : ((l.take (j + 1)).filter keep).length = ((l.take j).filter keep).length := by rw [take_snoc hx, List.filter_append]; simp [hkx]
        rw [hne]
        generalize ((l.take j).filter keep).length = c at *
        replace hns := Lib.hid hns
        replace hR := Lib.hid hR
        repeat' (first
    | refine AW_seq_kn fun K hK => ?_
    | refine AW_block ?_
    | (refine does_call_f rfl (by simp only [push_cast, seval]; rfl) ?_; simp only [push_cast, seval, *]; refine ACall.mono (hcall _ ?hle) ?_; (case hle => (intro m kk hm hmm; have hmn := ne_old hmm; simp only [push_cast, seval, upd_get, *])); (rintro _ _ ⟨rfl, e2⟩; have e3 := e2.symm; clear e2; subst e3); (try simp only [push_cast, seval, *]))
    | ((first
      | refine AW_region E0 ?_ | refine AW_ret ?_ | refine AW_exit ?_ | refine AW_skip ?_ | unfold retQ); try simp only [push_cast, seval, *])
    | (apply AW_cond; (case hc => (simp only [push_cast, seval]; rfl)); all_goals (intro hc; first | (exfalso; simp only [push_cast, seval, *] at hc; done) | (exact absurd hc (by decide)) | ((try first | rw [Bool.not_true] at hc | rw [Bool.not_false] at hc); first | (with_reducible replace hc := tTT hc); clear hc | (with_reducible replace hc := tFF hc); clear hc | (have hp := hc; try simp only [decide_eq_true_eq, decide_eq_false_iff_not, bA, bB, bC, bD, bE, bF, bG, bH] at hp))))
    | (refine Kn.go hK ?_; clear hK K)
    | refine Kn.go (by assumption) ?_
    | (intro n hn; (try simp only [upd_none2, join_none_iff, ite_none, ne_eq] at hn); (try simp only [push_cast, seval, *]))
    | (intro hc)
    | fail)
        exact ⟨R, unhid hns, by (first | trivial | (simp only [push_cast, seval, *]; done)), by first | (repeat' (first | exact Heap.le_refl _ | refine hle_upd2 ?_ _ _ | (refine Heap.le_new ?_ ?_; rotate_left 1; focus (first | assumption | (simp only [upd_none2, upd_get, ne_eq, push_cast, seval, *]; done) | (simp [upd_get, *]; done))))) | (simp only [push_cast, seval, *])⟩
      · rw [hkx] at hcall
        obtain ⟨hns, hne⟩ := hR.step_yes hx hkx
        rw [hne]
        generalize ((l.take j).filter keep).length = c at *
        have hcj : c < l.length := by omega
        have hcI : (c : Int) < l.length := by omega
        have hcw : IntKind.i64.wrap ((c : Int) + 1) = (c : Int) + 1 := wrap_i64 (by omega) (by omega)
        obtain ⟨row, hrow⟩ : ∃ row, R[c]? = some row := ⟨_, List.getElem?_eq_getElem (by omega)⟩
        obtain ⟨y, rfl⟩ := hR.w row (List.mem_of_getElem? hrow)
        have hey := he y
        have hdy : List.drop 3 (enc y) = [] := List.drop_eq_nil_of_le (by rw [hey]; exact Nat.le_refl _)
        have hay : enc x ++ ([] : List AV) = enc x := List.append_nil _
        replace hns := Lib.hid hns
        replace hR := Lib.hid hR
        repeat' (first
    | refine AW_seq_kn fun K hK => ?_
    | refine AW_block ?_
    | (refine does_call_f rfl (by simp only [push_cast, seval]; rfl) ?_; simp only [push_cast, seval, *]; refine ACall.mono (hcall _ ?hle) ?_; (case hle => (intro m kk hm hmm; have hmn := ne_old hmm; simp only [push_cast, seval, upd_get, *])); (rintro _ _ ⟨rfl, e2⟩; have e3 := e2.symm; clear e2; subst e3); (try simp only [push_cast, seval, *]))
    | ((first
      | refine AW_region E0 ?_ | refine AW_ret ?_ | refine AW_exit ?_ | refine AW_skip ?_ | unfold retQ); try simp only [push_cast, seval, *])
    | (apply AW_cond; (case hc => (simp only [push_cast, seval]; rfl)); all_goals (intro hc; first | (exfalso; simp only [push_cast, seval, *] at hc; done) | (exact absurd hc (by decide)) | ((try first | rw [Bool.not_true] at hc | rw [Bool.not_false] at hc); first | (with_reducible replace hc := tTT hc); clear hc | (with_reducible replace hc := tFF hc); clear hc | (have hp := hc; try simp only [decide_eq_true_eq, decide_eq_false_iff_not, bA, bB, bC, bD, bE, bF, bG, bH] at hp))))
    | (refine Kn.go hK ?_; clear hK K)
    | refine Kn.go (by assumption) ?_
    | (intro n hn; (try simp only [upd_none2, join_none_iff, ite_none, ne_eq] at hn); (try simp only [push_cast, seval, *]))
    | (intro hc)
    | fail)
        exact ⟨_, unhid hns, by (first | trivial | (simp only [push_cast, seval, *]; done)), by (intro m kk hmm; by_cases e : m = nb; (subst e; rw [upd_same] at hmm ⊢; exact hmm); rw [upd_ne e] at hmm ⊢; have e2 : ¬ m = n := (by rintro rfl; rw [hn.2] at hmm; cases hmm); rw [upd_ne e2, upd_ne e]; exact hmm)⟩
    · intro R hR
      have hlen : i + 1 + (l.length - (i + 1)) = l.length := by omega
      rw [hlen] at hR ⊢
      obtain ⟨-, ht, -, -⟩ := hR
      rw [List.take_length] at ht ⊢
      have hfl := List.length_filter_le keep l
      refine AW_shrink (l.filter keep).length ?_
      rw [ht]
      have hml : ((l.filter keep).map enc).length = (l.filter keep).length := List.length_map _
      generalize l.filter keep = L at *
      have hLI : (L.length : Int) ≤ l.length := by omega
      have hLc : (L.length : Int) ≤ cap := by omega
      have hH2 := upd_same H nb (.r 26 3 cap (L.map enc))
      clear hf hst
      repeat' (first
    | refine AW_seq_kn fun K hK => ?_
    | refine AW_block ?_
    | (refine does_clear rfl rfl hH2 hE24 hZ33 rfl (by decide) (by omega) (by omega) ?_; (try simp only [push_cast, seval, *]))
    | ((first
      | refine AW_region E0 ?_ | refine AW_ret ?_ | refine AW_exit ?_ | refine AW_skip ?_ | unfold retQ); try simp only [push_cast, seval, *])
    | (apply AW_cond; (case hc => (simp only [push_cast, seval]; rfl)); all_goals (intro hc; first | (exfalso; simp only [push_cast, seval, *] at hc; done) | (exact absurd hc (by decide)) | ((try first | rw [Bool.not_true] at hc | rw [Bool.not_false] at hc); first | (with_reducible replace hc := tTT hc); clear hc | (with_reducible replace hc := tFF hc); clear hc | (have hp := hc; try simp only [decide_eq_true_eq, decide_eq_false_iff_not, bA, bB, bC, bD, bE, bF, bG, bH] at hp))))
    | (refine Kn.go hK ?_; clear hK K)
    | refine Kn.go (by assumption) ?_
    | (intro n hn; (try simp only [upd_none2, join_none_iff, ite_none, ne_eq] at hn); (try simp only [push_cast, seval, *]))
    | (intro hc)
    | fail)
      exact ⟨_, _, Weak.refl _ _, rfl, rfl⟩
theorem delNO_nil (gf : FuncId) (caps : List AV) (ad : Option Addr) (H : Heap) :
    ACall Try.prog 92 [.c (.slice ad 0 0), .f (.func gf) [] caps] H fun r H' => r = .c (.slice ad 0 0) ∧ H' = H := by
  have hix := idxNO_nil gf caps ad H
  refine ACall_of' Try.func92 rfl (Ent_of Try.func92 (by kernel_rfl) rfl) (by simp [Try.ntmps92]) ?_; simp only [Try.ntmps92, Try.results92]
  repeat' (first
    | refine AW_seq_kn fun K hK => ?_
    | refine AW_block ?_
    | (refine does_call rfl rfl ?_; simp only [push_cast, seval, *]; refine ACall.mono hix ?_; (rintro _ _ ⟨rfl, e2⟩; have e3 := e2.symm; clear e2; subst e3); (try simp only [push_cast, seval, *]))
    | ((first
      | refine AW_region E0 ?_ | refine AW_ret ?_ | refine AW_exit ?_ | refine AW_skip ?_ | unfold retQ); try simp only [push_cast, seval, *])
    | (apply AW_cond; (case hc => (simp only [push_cast, seval]; rfl)); all_goals (intro hc; first | (exfalso; simp only [push_cast, seval, *] at hc; done) | (exact absurd hc (by decide)) | ((try first | rw [Bool.not_true] at hc | rw [Bool.not_false] at hc); first | (with_reducible replace hc := tTT hc); clear hc | (with_reducible replace hc := tFF hc); clear hc | (have hp := hc; try simp only [decide_eq_true_eq, decide_eq_false_iff_not, bA, bB, bC, bD, bE, bF, bG, bH] at hp))))
    | (refine Kn.go hK ?_; clear hK K)
    | refine Kn.go (by assumption) ?_
    | (intro n hn; (try simp only [upd_none2, join_none_iff, ite_none, ne_eq] at hn); (try simp only [push_cast, seval, *]))
    | (intro hc)
    | fail)
  exact ⟨_, _, Weak.refl _ _, rfl, rfl⟩

def toldK (names : List Nm) (x : Nm) : Bool := !decide (x ∈ names)
theorem told1_a (names : List Nm) (hk : names.length ≤ maxLen) (x : Nm) (G : Heap) (n3 : Nat) (h3 : G n3 = some (.r 22 1 1 [[.l 3 (names.map Nm.av)]])) :
    ACall Try.prog 93 ([.g (Nm.av x)] ++ [.p n3 1 0 0]) G fun r H' => r = .c (.bool (!toldK names x)) ∧ H' = G := by
  have hct := hasN_p names hk x
  simp only [toldK, Bool.not_not]
  generalize decide (x ∈ names) = B at *
  obtain ⟨s, a, m⟩ := x
  simp only [Nm.av] at hct ⊢
  have o3 := ne_old h3
  refine ACall_of' Try.func93 rfl (Ent_of Try.func93 (by kernel_rfl) rfl) (by simp [Try.ntmps93]) ?_; simp only [Try.ntmps93, Try.results93]
  repeat' (first
    | refine AW_seq_kn fun K hK => ?_
    | refine AW_block ?_
    | (refine does_call rfl rfl ?_; simp only [push_cast, seval, *]; refine ACall.monoP (hct _) ?_; (try simp only [push_cast, seval, *]))
    | ((first
      | refine AW_region E0 ?_ | refine AW_ret ?_ | refine AW_exit ?_ | refine AW_skip ?_ | unfold retQ); try simp only [push_cast, seval, *])
    | (apply AW_cond; (case hc => (simp only [push_cast, seval]; rfl)); all_goals (intro hc; first | (exfalso; simp only [push_cast, seval, *] at hc; done) | (exact absurd hc (by decide)) | ((try first | rw [Bool.not_true] at hc | rw [Bool.not_false] at hc); first | (with_reducible replace hc := tTT hc); clear hc | (with_reducible replace hc := tFF hc); clear hc | (have hp := hc; try simp only [decide_eq_true_eq, decide_eq_false_iff_not, bA, bB, bC, bD, bE, bF, bG, bH] at hp))))
    | (refine Kn.go hK ?_; clear hK K)
    | refine Kn.go (by assumption) ?_
    | (intro n hn; (try simp only [upd_none2, join_none_iff, ite_none, ne_eq] at hn); (try simp only [push_cast, seval, *]))
    | (intro hc)
    | fail)
  exact ⟨_, _, Weak.less (by (repeat' (first | exact Heap.le_refl _ | refine hle_upd2 ?_ _ _ | (refine Heap.le_new ?_ ?_; rotate_left 1; focus (first | assumption | (simp only [upd_none2, upd_get, ne_eq, push_cast, seval, *]; done) | (simp [upd_get, *]; done)))))), rfl, rfl⟩
theorem delT_o (names : List Nm) (hk : names.length ≤ maxLen) (l : List Nm) (hl : l.length ≤ 1000000) {z : AV} {Hz G : Heap} {n3 : Nat} (h3 : G n3 = some (.r 22 1 1 [[.l 3 (names.map Nm.av)]])) (hz : OwnL Hz z 26 3 (l.map Nm.av) G) :
    ACall Try.prog 92 [z, .f (.func 93) [] [.p n3 1 0 0]] Hz fun r H' => OwnL H' r 26 3 ((l.filter (toldK names)).map Nm.av) G := by
  have k3 := hz.get h3
  rcases hz with ⟨⟨ad, rfl⟩, e, rfl⟩ | ⟨nb, cap, rfl, hb, rfl⟩
  · have : l = [] := by simpa using e
    subst this
    refine (delNO_nil _ _ ad G).mono ?_
    rintro r H' ⟨rfl, rfl⟩
    exact .inl ⟨⟨ad, rfl⟩, rfl, rfl⟩
  · rw [List.length_map]
    have h3b : n3 ≠ nb := by rintro rfl; rw [del_same] at h3; cases h3
    refine (delNO_s Nm.av (fun x => rfl) l hl (toldK names) 93 [.p n3 1 0 0] Hz hb (fun x _ M hM => told1_a names hk x M n3 (hM n3 _ h3b k3))).mono ?_
    rintro r H' ⟨rfl, rfl⟩
    exact .inr ⟨nb, cap, by rw [List.length_map], upd_same _ _ _, by funext q; by_cases e : q = nb <;> simp [del, upd, e]⟩
def toldSk (s : Sk) (names : List Nm) : Sk × Int := if skOk s = true then ({ s with rdy := s.rdy.filter (toldK names) }, 0) else (zeroSk, 270)
theorem sTold_p (s : Sk) (hl : s.rdy.length ≤ maxLen) (names : List Nm) (hk : names.length ≤ maxLen) : Pure Try.prog 50 [.g (Sk.av s), .l 3 (names.map Nm.av)] (.t [.g (Sk.av (toldSk s names).1), .c (.int .i64 (toldSk s names).2)]) := by
  intro H
  have hck := sCheck_p s hl
  unfold toldSk
  cases hok : skOk s
  · rw [hok] at hck
    simp only [Bool.false_eq_true, if_false] at hck ⊢
    obtain ⟨a, b, c, d, l⟩ := s
    simp only [Sk.av, zeroSk, List.map_nil] at hck ⊢
    clear hok
    refine ACall_of' Try.func50 rfl (Ent_of Try.func50 (by kernel_rfl) rfl) (by simp [Try.ntmps50]) ?_; simp only [Try.ntmps50, Try.results50]
    repeat' (first
    | refine AW_seq_kn fun K hK => ?_
    | refine AW_block ?_
    | (refine does_call rfl rfl ?_; simp only [push_cast, seval, *]; refine ACall.monoP (hck _) ?_; (try simp only [push_cast, seval, *]))
    | ((first
      | refine AW_region E0 ?_ | refine AW_ret ?_ | refine AW_exit ?_ | refine AW_skip ?_ | unfold retQ); try simp only [push_cast, seval, *])
    | (apply AW_cond; (case hc => (simp only [push_cast, seval]; rfl)); all_goals (intro hc; first | (exfalso; simp only [push_cast, seval, *] at hc; done) | (exact absurd hc (by decide)) | ((try first | rw [Bool.not_true] at hc | rw [Bool.not_false] at hc); first | (with_reducible replace hc := tTT hc); clear hc | (with_reducible replace hc := tFF hc); clear hc | (have hp := hc; try simp only [decide_eq_true_eq, decide_eq_false_iff_not, bA, bB, bC, bD, bE, bF, bG, bH] at hp))))
    | (refine Kn.go hK ?_; clear hK K)
    | refine Kn.go (by assumption) ?_
    | (intro n hn; (try simp only [upd_none2, join_none_iff, ite_none, ne_eq] at hn); (try simp only [push_cast, seval, *]))
    | (intro hc)
    | fail)
    exact ⟨_, _, Weak.trans (Weak.less (by (repeat' (first | exact Heap.le_refl _ | refine hle_upd2 ?_ _ _ | (refine Heap.le_new ?_ ?_; rotate_left 1; focus (first | assumption | (simp only [upd_none2, upd_get, ne_eq, push_cast, seval, *]; done) | (simp [upd_get, *]; done))))))) (weak_zs _), rfl, rfl⟩
  rw [hok] at hck
  simp only [if_true] at hck ⊢
  obtain ⟨-, -, -, -, hll⟩ := skOk_bd hok
  obtain ⟨a, b, c, d, l⟩ := s
  simp only at hll
  have hco := copied_o l (by omega)
  have hdl := fun (z : AV) (Hz G : Heap) (n3 : Nat) h3 hz => ACall.weak ((delT_o names hk l (by omega) (z := z) (Hz := Hz) (G := G) (n3 := n3) h3 hz).mono fun r H' h => ⟨.l 3 ((l.filter (toldK names)).map Nm.av), G, h.weak (fun F F' hF hi _ => hi), (⟨rfl, rfl⟩ : AV.l 3 ((l.filter (toldK names)).map Nm.av) = .l 3 ((l.filter (toldK names)).map Nm.av) ∧ G = G)⟩) (K := fun r H' => r = .l 3 ((l.filter (toldK names)).map Nm.av) ∧ H' = G)
  simp only [Sk.av] at hck ⊢
  clear hok hl
  obtain ⟨F, hF⟩ : ∃ F, F = (l.filter (toldK names)).map Nm.av := ⟨_, rfl⟩
  rw [← hF] at hdl ⊢
  clear hF
  replace hco := Lib.hid hco
  replace hdl := Lib.hid hdl
  refine ACall_of' Try.func50 rfl (Ent_of Try.func50 (by kernel_rfl) rfl) (by simp [Try.ntmps50]) ?_; simp only [Try.ntmps50, Try.results50]
  repeat' (first
    | refine AW_seq_kn fun K hK => ?_
    | refine AW_block ?_
    | (refine does_call rfl rfl ?_; simp only [push_cast, seval, *]; refine ACall.monoP (hck _) ?_; (try simp only [push_cast, seval, *]))
    | ((first
      | refine AW_region E0 ?_ | refine AW_ret ?_ | refine AW_exit ?_ | refine AW_skip ?_ | unfold retQ); try simp only [push_cast, seval, *])
    | (apply AW_cond; (case hc => (simp only [push_cast, seval]; rfl)); all_goals (intro hc; first | (exfalso; simp only [push_cast, seval, *] at hc; done) | (exact absurd hc (by decide)) | ((try first | rw [Bool.not_true] at hc | rw [Bool.not_false] at hc); first | (with_reducible replace hc := tTT hc); clear hc | (with_reducible replace hc := tFF hc); clear hc | (have hp := hc; try simp only [decide_eq_true_eq, decide_eq_false_iff_not, bA, bB, bC, bD, bE, bF, bG, bH] at hp))))
    | (refine Kn.go hK ?_; clear hK K)
    | refine Kn.go (by assumption) ?_
    | (intro n hn; (try simp only [upd_none2, join_none_iff, ite_none, ne_eq] at hn); (try simp only [push_cast, seval, *]))
    | (intro hc)
    | fail)
  rename_i n2 h2 n3 h3
  generalize n = n4 at *
  obtain ⟨Gs, hGs⟩ : ∃ Gs : Heap, Gs = upd (upd (upd H n2 (.r 34 5 1 [[.c (.int .i64 a), .c (.int .i64 b), .c (.int .i64 c), .c (.bool d), .l 3 (l.map Nm.av)]])) n3 (.r 22 1 1 [[.l 3 (names.map Nm.av)]])) n4 (.r 34 5 1 [[.c (.int .i64 0), .c (.int .i64 0), .c (.int .i64 0), .c (.bool false), .c (.slice none 0 0)]]) := ⟨_, rfl⟩
  have g2 : Gs n2 = some (.r 34 5 1 [[.c (.int .i64 a), .c (.int .i64 b), .c (.int .i64 c), .c (.bool d), .l 3 (l.map Nm.av)]]) := by rw [hGs]; simp only [push_cast, seval, upd_get, *]
  have g3 : Gs n3 = some (.r 22 1 1 [[.l 3 (names.map Nm.av)]]) := by rw [hGs]; simp only [push_cast, seval, upd_get, *]
  have g4 : Gs n4 = some (.r 34 5 1 [[.c (.int .i64 0), .c (.int .i64 0), .c (.int .i64 0), .c (.bool false), .c (.slice none 0 0)]]) := by rw [hGs]; exact upd_same _ _ _
  have o24 : ¬ n2 = n4 := hn.2.1.2
  have o42 : ¬ n4 = n2 := hn.2.1.1
  have hle : ∀ x z : Blk, Heap.le H (upd (upd Gs n2 x) n4 z) := fun x z => by
    intro q u hq
    have c1 : q ≠ n2 := by rintro rfl; rw [h2] at hq; cases hq
    have c2 : q ≠ n3 := by rintro rfl; rw [h3.2] at hq; cases hq
    have c3 : q ≠ n4 := by rintro rfl; rw [hn.2.2] at hq; cases hq
    simp only [hGs, upd_get, if_neg c1, if_neg c2, if_neg c3]; exact hq
  rw [← hGs]
  clear hGs h2 h3 hn hck
  replace hle := Lib.hid hle
  refine does_call rfl rfl ?_
  simp only [push_cast, seval, *]
  refine ACall.mono (unhid hco _) ?_
  intro z Hz hz
  have zcs := hz.cs
  have zone := hz.one
  have hd := unhid hdl z Hz Gs n3 g3 hz
  have k2 := hz.get g2
  have k4 := hz.get g4
  clear hco hdl hz
  replace hd := Lib.hid hd
  (try simp only [push_cast, seval, *])
  repeat' (first
    | refine AW_seq_kn fun K hK => ?_
    | refine AW_block ?_
    | ((first
      | refine AW_region E0 ?_ | refine AW_ret ?_ | refine AW_exit ?_ | refine AW_skip ?_ | unfold retQ); try simp only [push_cast, seval, *])
    | (apply AW_cond; (case hc => (simp only [push_cast, seval]; rfl)); all_goals (intro hc; first | (exfalso; simp only [push_cast, seval, *] at hc; done) | (exact absurd hc (by decide)) | ((try first | rw [Bool.not_true] at hc | rw [Bool.not_false] at hc); first | (with_reducible replace hc := tTT hc); clear hc | (with_reducible replace hc := tFF hc); clear hc | (have hp := hc; try simp only [decide_eq_true_eq, decide_eq_false_iff_not, bA, bB, bC, bD, bE, bF, bG, bH] at hp))))
    | (refine Kn.go hK ?_; clear hK K)
    | refine Kn.go (by assumption) ?_
    | (intro n hn; (try simp only [upd_none2, join_none_iff, ite_none, ne_eq] at hn); (try simp only [push_cast, seval, *]))
    | (intro hc)
    | fail)
  skip
  refine does_call rfl rfl ?_
  simp only [push_cast, seval, *]
  refine ACall.mono (unhid hd) ?_
  (rintro _ _ ⟨rfl, e2⟩; have e3 := e2.symm; clear e2; subst e3)
  clear hd k2 k4
  (try simp only [push_cast, seval, *])
  repeat' (first
    | refine AW_seq_kn fun K hK => ?_
    | refine AW_block ?_
    | ((first
      | refine AW_region E0 ?_ | refine AW_ret ?_ | refine AW_exit ?_ | refine AW_skip ?_ | unfold retQ); try simp only [push_cast, seval, *])
    | (apply AW_cond; (case hc => (simp only [push_cast, seval]; rfl)); all_goals (intro hc; first | (exfalso; simp only [push_cast, seval, *] at hc; done) | (exact absurd hc (by decide)) | ((try first | rw [Bool.not_true] at hc | rw [Bool.not_false] at hc); first | (with_reducible replace hc := tTT hc); clear hc | (with_reducible replace hc := tFF hc); clear hc | (have hp := hc; try simp only [decide_eq_true_eq, decide_eq_false_iff_not, bA, bB, bC, bD, bE, bF, bG, bH] at hp))))
    | (refine Kn.go hK ?_; clear hK K)
    | refine Kn.go (by assumption) ?_
    | (intro n hn; (try simp only [upd_none2, join_none_iff, ite_none, ne_eq] at hn); (try simp only [push_cast, seval, *]))
    | (intro hc)
    | fail)
  exact ⟨_, _, Weak.less (unhid hle _ _), rfl, rfl⟩
end Go.Proofs.Ytdeckjoeggmagaa
