/- Abort. -/
import Derived.Test.YtdeckjoeggmagaaH
namespace Go.Proofs.Ytdeckjoeggmagaa
open Go.RowKit
open Nat renaming reduceEqDiff → nA, reduceLT → nB, reduceLeDiff → nC, reduceAdd → nD, reduceMul → nE, reduceSub → nF, reduceBEq → nG
open Int renaming reduceToNat → iA, reduceLT → iB, reduceLE → iC, reduceEq → iD
open Bool renaming and_eq_true → bA, or_eq_true → bB, or_eq_false_iff → bC, and_eq_false_iff → bD, not_eq_true' → bE, not_eq_false' → bF, not_true → bG, not_false → bH
set_option linter.all false
set_option maxHeartbeats 4000000
attribute [local irreducible] AW Does ACall tE tS tB tZ
def dLO0 : List En := [(0, false, []), (1, true, []), (2, false, []), (3, false, [1]), (4, false, []), (5, false, [])]
def dAO0 : List (List Nat) := [[], [], [], [0], [0, 1, 3], [0, 1, 2, 3, 4]]
attribute [push_cast] dLO0
set_option maxRecDepth 5000

theorem idxO {α : Type} (enc : α → List AV) (he : ∀ x, (enc x).length = 5) (l : List α) (hl : l.length ≤ 1000000) (p : α → Bool) (gf : FuncId) (caps : List AV) (H : Heap) {n cap : Nat} {ty : TypeId} (hH : H n = some (.r ty 5 cap (l.map enc)))
    (hf : ∀ x ∈ l, ∀ G, Heap.le H G → ACall Try.prog gf ([.g (enc x)] ++ caps) G fun r H' => r = .c (.bool (p x)) ∧ H' = G) :
    ACall Try.prog 115 [.s n 5 0 l.length cap, .f (.func gf) [] caps] H fun r H' => r = .c (.int .i64 (idxS p l)) ∧ H' = H := by
  refine ACall_of' Try.func115 rfl (Ent_of Try.func115 (by kernel_rfl) rfl) (by simp [Try.ntmps115]) ?_; simp only [Try.ntmps115, Try.results115]
  repeat' (first
    | refine AW_seq_kn fun K hK => ?_
    | refine AW_block ?_
    | ((first
      | refine AW_region E0 ?_ | refine AW_ret ?_ | refine AW_exit ?_ | refine AW_skip ?_ | unfold retQ); try simp only [push_cast, seval, *])
    | (apply AW_cond; (case hc => (simp only [push_cast, seval]; rfl)); all_goals (intro hc; first | (exfalso; simp only [push_cast, seval, *] at hc; done) | (exact absurd hc (by decide)) | ((try first | rw [Bool.not_true] at hc | rw [Bool.not_false] at hc); first | (with_reducible replace hc := tTT hc); clear hc | (with_reducible replace hc := tFF hc); clear hc | (have hp := hc; try simp only [decide_eq_true_eq, decide_eq_false_iff_not, bA, bB, bC, bD, bE, bF, bG, bH] at hp))))
    | (refine Kn.go hK ?_; clear hK K)
    | refine Kn.go (by assumption) ?_
    | (intro n hn; (try simp only [upd_none2, join_none_iff, ite_none, ne_eq] at hn); (try simp only [push_cast, seval, *]))
    | (intro hc)
    | fail)
  refine AW_loopS (fun k : Nat => k ≤ l.length ∧ ∀ j y, j < k → l[j]? = some y → p y = false) (fun k => [(0, .s n 5 0 l.length cap), (1, .f (.func gf) [] caps), (7, .c (.int .i64 l.length)), (8, .c (.int .i64 k))]) (fun _ => H) (fun k => l.length - k) 0 ⟨Nat.zero_le _, fun j y hj => by omega⟩ ?_ (Heap.le_refl _) ?_
  · simp only [push_cast, seval, *]
  · rintro k ⟨hk, hno⟩
    by_cases hlt : k < l.length
    · have hx := List.getElem?_eq_getElem hlt
      generalize l[k] = x at hx
      have hlt' : (k : Int) < l.length := by omega
      have htk : List.take 5 (enc x) = enc x := List.take_of_length_le (Nat.le_of_eq (he x))
      have hex := he x
      have hwk : IntKind.i64.wrap ((k : Int) + 1) = (k : Int) + 1 := wrap_i64 (by omega) (by omega)
      have hcall := hf x (List.mem_of_getElem? hx)
      simp only [push_cast, seval] at hcall
      clear hf
      cases hpx : p x
      · rw [hpx] at hcall
        repeat' (first
    | refine AW_seq_kn fun K hK => ?_
    | refine AW_block ?_
    | (refine does_call_f rfl (by simp only [push_cast, seval]; rfl) ?_; simp only [push_cast, seval, *]; refine ACall.mono (hcall _ ?hle) ?_; (case hle => (repeat' (first | exact Heap.le_refl _ | refine hle_upd2 ?_ _ _ | (refine Heap.le_new ?_ ?_; rotate_left 1; focus (first | assumption | (simp only [upd_none2, upd_get, ne_eq, push_cast, seval, *]; done) | (simp [upd_get, *]; done)))))); (rintro _ _ ⟨rfl, e2⟩; have e3 := e2.symm; clear e2; subst e3); (try simp only [push_cast, seval, *]))
    | ((first
      | refine AW_region E0 ?_ | refine AW_ret ?_ | refine AW_exit ?_ | refine AW_skip ?_ | unfold retQ); try simp only [push_cast, seval, *])
    | (apply AW_cond; (case hc => (simp only [push_cast, seval]; rfl)); all_goals (intro hc; first | (exfalso; simp only [push_cast, seval, *] at hc; done) | (exact absurd hc (by decide)) | ((try first | rw [Bool.not_true] at hc | rw [Bool.not_false] at hc); first | (with_reducible replace hc := tTT hc); clear hc | (with_reducible replace hc := tFF hc); clear hc | (have hp := hc; try simp only [decide_eq_true_eq, decide_eq_false_iff_not, bA, bB, bC, bD, bE, bF, bG, bH] at hp))))
    | (refine Kn.go hK ?_; clear hK K)
    | refine Kn.go (by assumption) ?_
    | (intro n hn; (try simp only [upd_none2, join_none_iff, ite_none, ne_eq] at hn); (try simp only [push_cast, seval, *]))
    | (intro hc)
    | fail)
        refine ⟨k + 1, ⟨by omega, fun j y hj hy => ?_⟩, by simp only [push_cast, seval, *], by omega⟩
        by_cases e : j = k
        · subst e; rw [hx] at hy; cases hy; exact hpx
        · exact hno j y (by omega) hy
      · rw [hpx] at hcall
        repeat' (first
    | refine AW_seq_kn fun K hK => ?_
    | refine AW_block ?_
    | (refine does_call_f rfl (by simp only [push_cast, seval]; rfl) ?_; simp only [push_cast, seval, *]; refine ACall.mono (hcall _ ?hle) ?_; (case hle => (repeat' (first | exact Heap.le_refl _ | refine hle_upd2 ?_ _ _ | (refine Heap.le_new ?_ ?_; rotate_left 1; focus (first | assumption | (simp only [upd_none2, upd_get, ne_eq, push_cast, seval, *]; done) | (simp [upd_get, *]; done)))))); (rintro _ _ ⟨rfl, e2⟩; have e3 := e2.symm; clear e2; subst e3); (try simp only [push_cast, seval, *]))
    | ((first
      | refine AW_region E0 ?_ | refine AW_ret ?_ | refine AW_exit ?_ | refine AW_skip ?_ | unfold retQ); try simp only [push_cast, seval, *])
    | (apply AW_cond; (case hc => (simp only [push_cast, seval]; rfl)); all_goals (intro hc; first | (exfalso; simp only [push_cast, seval, *] at hc; done) | (exact absurd hc (by decide)) | ((try first | rw [Bool.not_true] at hc | rw [Bool.not_false] at hc); first | (with_reducible replace hc := tTT hc); clear hc | (with_reducible replace hc := tFF hc); clear hc | (have hp := hc; try simp only [decide_eq_true_eq, decide_eq_false_iff_not, bA, bB, bC, bD, bE, bF, bG, bH] at hp))))
    | (refine Kn.go hK ?_; clear hK K)
    | refine Kn.go (by assumption) ?_
    | (intro n hn; (try simp only [upd_none2, join_none_iff, ite_none, ne_eq] at hn); (try simp only [push_cast, seval, *]))
    | (intro hc)
    | fail)
        exact ⟨_, _, Weak.less (by first | (repeat' (first | exact Heap.le_refl _ | refine hle_upd2 ?_ _ _ | (refine Heap.le_new ?_ ?_; rotate_left 1; focus (first | assumption | (simp only [upd_none2, upd_get, ne_eq, push_cast, seval, *]; done) | (simp [upd_get, *]; done))))) | (simp only [push_cast, seval, *])), by rw [idxS_some hx hpx hno], rfl⟩
    · have hlt' : ¬ (k : Int) < l.length := by omega
      repeat' (first
    | refine AW_seq_kn fun K hK => ?_
    | refine AW_block ?_
    | ((first
      | refine AW_region E0 ?_ | refine AW_ret ?_ | refine AW_exit ?_ | refine AW_skip ?_ | unfold retQ); try simp only [push_cast, seval, *])
    | (apply AW_cond; (case hc => (simp only [push_cast, seval]; rfl)); all_goals (intro hc; first | (exfalso; simp only [push_cast, seval, *] at hc; done) | (exact absurd hc (by decide)) | ((try first | rw [Bool.not_true] at hc | rw [Bool.not_false] at hc); first | (with_reducible replace hc := tTT hc); clear hc | (with_reducible replace hc := tFF hc); clear hc | (have hp := hc; try simp only [decide_eq_true_eq, decide_eq_false_iff_not, bA, bB, bC, bD, bE, bF, bG, bH] at hp))))
    | (refine Kn.go hK ?_; clear hK K)
    | refine Kn.go (by assumption) ?_
    | (intro n hn; (try simp only [upd_none2, join_none_iff, ite_none, ne_eq] at hn); (try simp only [push_cast, seval, *]))
    | (intro hc)
    | fail)
      have hno' : ∀ (j : Nat) (y : α), l[j]? = some y → p y = false := fun j y hy => by
        have := (List.getElem?_eq_some_iff.1 hy).1
        exact hno j y (by omega) hy
      exact ⟨_, _, Weak.refl _ _, by rw [idxS_none hno'], rfl⟩
theorem idxO_nil (gf : FuncId) (caps : List AV) (ad : Option Addr) (H : Heap) :
    ACall Try.prog 115 [.c (.slice ad 0 0), .f (.func gf) [] caps] H fun r H' => r = .c (.int .i64 (-1)) ∧ H' = H := by
  refine ACall_of' Try.func115 rfl (Ent_of Try.func115 (by kernel_rfl) rfl) (by simp [Try.ntmps115]) ?_; simp only [Try.ntmps115, Try.results115]
  repeat' (first
    | refine AW_seq_kn fun K hK => ?_
    | refine AW_block ?_
    | ((first
      | refine AW_region E0 ?_ | refine AW_ret ?_ | refine AW_exit ?_ | refine AW_skip ?_ | unfold retQ); try simp only [push_cast, seval, *])
    | (apply AW_cond; (case hc => (simp only [push_cast, seval]; rfl)); all_goals (intro hc; first | (exfalso; simp only [push_cast, seval, *] at hc; done) | (exact absurd hc (by decide)) | ((try first | rw [Bool.not_true] at hc | rw [Bool.not_false] at hc); first | (with_reducible replace hc := tTT hc); clear hc | (with_reducible replace hc := tFF hc); clear hc | (have hp := hc; try simp only [decide_eq_true_eq, decide_eq_false_iff_not, bA, bB, bC, bD, bE, bF, bG, bH] at hp))))
    | (refine Kn.go hK ?_; clear hK K)
    | refine Kn.go (by assumption) ?_
    | (intro n hn; (try simp only [upd_none2, join_none_iff, ite_none, ne_eq] at hn); (try simp only [push_cast, seval, *]))
    | (intro hc)
    | fail)
  refine AW_loopS (σ := Unit) (fun _ => True) (fun _ => [(0, .c (.slice ad 0 0)), (1, .f (.func gf) [] caps), (7, .c (.int .i64 0)), (8, .c (.int .i64 0))]) (fun _ => H) (fun _ => 0) () trivial ?_ (Heap.le_refl _) ?_
  · simp only [push_cast, seval, *]
  · intro _ _
    repeat' (first
    | refine AW_seq_kn fun K hK => ?_
    | refine AW_block ?_
    | ((first
      | refine AW_region E0 ?_ | refine AW_ret ?_ | refine AW_exit ?_ | refine AW_skip ?_ | unfold retQ); try simp only [push_cast, seval, *])
    | (apply AW_cond; (case hc => (simp only [push_cast, seval]; rfl)); all_goals (intro hc; first | (exfalso; simp only [push_cast, seval, *] at hc; done) | (exact absurd hc (by decide)) | ((try first | rw [Bool.not_true] at hc | rw [Bool.not_false] at hc); first | (with_reducible replace hc := tTT hc); clear hc | (with_reducible replace hc := tFF hc); clear hc | (have hp := hc; try simp only [decide_eq_true_eq, decide_eq_false_iff_not, bA, bB, bC, bD, bE, bF, bG, bH] at hp))))
    | (refine Kn.go hK ?_; clear hK K)
    | refine Kn.go (by assumption) ?_
    | (intro n hn; (try simp only [upd_none2, join_none_iff, ite_none, ne_eq] at hn); (try simp only [push_cast, seval, *]))
    | (intro hc)
    | fail)
    exact ⟨_, _, Weak.refl _ _, rfl, rfl⟩

theorem delO_s {α : Type} (enc : α → List AV) (he : ∀ x, (enc x).length = 5) (l : List α) (hl : l.length ≤ 1000000) (keep : α → Bool) (gf : FuncId) (caps : List AV) (H : Heap) {nb cap : Nat} (hH : H nb = some (.r 86 5 cap (l.map enc)))
    (hf : ∀ x ∈ l, ∀ G, (∀ m k, m ≠ nb → H m = some k → G m = some k) → ACall Try.prog gf ([.g (enc x)] ++ caps) G fun r H' => r = .c (.bool (!keep x)) ∧ H' = G) :
    ACall Try.prog 87 [.s nb 5 0 l.length cap, .f (.func gf) [] caps] H fun r H' => r = .s nb 5 0 (l.filter keep).length cap ∧ H' = upd H nb (.r 86 5 cap ((l.filter keep).map enc)) := by
  have hix := idxO enc he l hl (fun x => !keep x) gf caps H hH (fun x hx G hG => hf x hx G (fun m k _ hm => hG m k hm))
  refine ACall.blk (Ent_of Try.func87 (by kernel_rfl) rfl) hH fun hcap hmax _ _ => ?_
  rw [List.length_map] at hcap
  have hcapI : (l.length : Int) ≤ cap := by omega
  rcases idxS_cases (fun x => !keep x) l with ⟨e, hall⟩ | ⟨i, x0, e, hx0, hk0, hb⟩
  · rw [e] at hix
    have hfl : l.filter keep = l := List.filter_eq_self.2 (fun x hx => by simpa using hall x hx)
    rw [hfl]
    clear hall hf
    refine ACall_of' Try.func87 rfl (Ent_of Try.func87 (by kernel_rfl) rfl) (by simp [Try.ntmps87]) ?_; simp only [Try.ntmps87, Try.results87]
    repeat' (first
    | refine AW_seq_kn fun K hK => ?_
    | refine AW_block ?_
    | (refine does_call rfl rfl ?_; simp only [push_cast, seval, *]; refine ACall.mono hix ?_; (rintro _ _ ⟨rfl, e2⟩; have e3 := e2.symm; clear e2; subst e3); (try simp only [push_cast, seval, *]))
    | ((first
      | refine AW_region E0 ?_ | refine AW_ret ?_ | refine AW_exit ?_ | refine AW_skip ?_ | unfold retQ); try simp only [push_cast, seval, *])
    | (apply AW_cond; (case hc => (simp only [push_cast, seval]; rfl)); all_goals (intro hc; first | (exfalso; simp only [push_cast, seval, *] at hc; done) | (exact absurd hc (by decide)) | ((try first | rw [Bool.not_true] at hc | rw [Bool.not_false] at hc); first | (with_reducible replace hc := tTT hc); clear hc | (with_reducible replace hc := tFF hc); clear hc | (have hp := hc; try simp only [decide_eq_true_eq, decide_eq_false_iff_not, bA, bB, bC, bD, bE, bF, bG, bH] at hp))))
    | (refine Kn.go hK ?_; clear hK K)
    | refine Kn.go (by assumption) ?_
    | (intro n hn; (try simp only [upd_none2, join_none_iff, ite_none, ne_eq] at hn); (try simp only [push_cast, seval, *]))
    | (intro hc)
    | fail)
    exact ⟨_, _, Weak.refl _ _, rfl, (upd_self hH).symm⟩
  · rw [e] at hix
    have hi := (List.getElem?_eq_some_iff.1 hx0).1
    obtain ⟨hst, hsl⟩ := DR.start (enc := enc) (keep := keep) (fun j y hj hy => by simpa using hb j y hj hy) hx0 (by simpa using hk0)
    have hiw : IntKind.i64.wrap ((i : Int) + 1) = (i : Int) + 1 := wrap_i64 (by omega) (by omega)
    have hi1 : ¬ (i : Int) = -1 := by omega
    have hE24 := tE44
    have hZ33 := tZ86
    clear hb hk0 hx0 e
    replace hst := Lib.hid hst
    refine ACall_of' Try.func87 rfl (Ent_of Try.func87 (by kernel_rfl) rfl) (by simp [Try.ntmps87]) ?_; simp only [Try.ntmps87, Try.results87]
    repeat' (first
    | refine AW_seq_kn fun K hK => ?_
    | refine AW_block ?_
    | (refine does_call rfl rfl ?_; simp only [push_cast, seval, *]; refine ACall.mono hix ?_; (rintro _ _ ⟨rfl, e2⟩; have e3 := e2.symm; clear e2; subst e3); (try simp only [push_cast, seval, *]))
    | ((first
      | refine AW_region E0 ?_ | refine AW_ret ?_ | refine AW_exit ?_ | refine AW_skip ?_ | unfold retQ); try simp only [push_cast, seval, *])
    | (apply AW_cond; (case hc => (simp only [push_cast, seval]; rfl)); all_goals (intro hc; first | (exfalso; simp only [push_cast, seval, *] at hc; done) | (exact absurd hc (by decide)) | ((try first | rw [Bool.not_true] at hc | rw [Bool.not_false] at hc); first | (with_reducible replace hc := tTT hc); clear hc | (with_reducible replace hc := tFF hc); clear hc | (have hp := hc; try simp only [decide_eq_true_eq, decide_eq_false_iff_not, bA, bB, bC, bD, bE, bF, bG, bH] at hp))))
    | (refine Kn.go hK ?_; clear hK K)
    | refine Kn.go (by assumption) ?_
    | (intro n hn; (try simp only [upd_none2, join_none_iff, ite_none, ne_eq] at hn); (try simp only [push_cast, seval, *]))
    | (intro hc)
    | fail)
    clear hix
    refine AW_loopX (σ := List (List AV)) (l.length - (i + 1)) (fun k R => DR enc l keep (i + 1 + k) R) (fun k _ => [(0, .s nb 5 0 l.length cap), (1, .f (.func gf) [] caps), (5, ci ((l.take (i + 1 + k)).filter keep).length), (6, ci (i + 1 + k : Nat))]) (fun _ R => upd H nb (.r 86 5 cap R)) (l.map enc) (unhid hst) ?_ ?_ ?_ ?_
    · rw [Nat.add_zero, hsl]; ((first | trivial | (simp only [push_cast, seval, *]; done)))
    · rw [upd_self hH]; exact Heap.le_refl _
    · intro k R hk hR
      have hjl : i + 1 + k < l.length := by omega
      have hj1 : i + 1 + (k + 1) = i + 1 + k + 1 := by omega
      rw [hj1]
      have hcl := DR.le l keep (i + 1 + k)
      generalize i + 1 + k = j at *
      obtain ⟨x, hx⟩ : ∃ x, l[j]? = some x := ⟨_, List.getElem?_eq_getElem hjl⟩
      have hRj : R[j]? = some (enc x) := by rw [hR.b j (Nat.le_refl _), List.getElem?_map, hx]; rfl
      have hRl := hR.n
      have hjI : (j : Int) < l.length := by omega
      have hjw : IntKind.i64.wrap ((j : Int) + 1) = (j : Int) + 1 := wrap_i64 (by omega) (by omega)
      have htk : List.take 5 (enc x) = enc x := List.take_of_length_le (Nat.le_of_eq (he x))
      have hex := he x
      have hcall := hf x (List.mem_of_getElem? hx)
      simp only [push_cast, seval] at hcall
      clear hf
      cases hkx : keep x
      · rw [hkx] at hcall
        have hns := hR.step_no hx hkx
        have hne : ((l.take (j + 1)).filter keep).length = ((l.take j).filter keep).length := by rw [take_snoc hx, List.filter_append]; simp [hkx]
        rw [hne]
        generalize ((l.take j).filter keep).length = c at *
        replace hns := Lib.hid hns
        replace hR := Lib.hid hR
        repeat' (first
    | refine AW_seq_kn fun K hK => ?_
    | refine AW_block ?_
    | (refine does_call_f rfl (by simp only [push_cast, seval]; rfl) ?_; simp only [push_cast, seval, *]; refine ACall.mono (hcall _ ?hle) ?_; (case hle => (intro m kk hm hmm; have hmn := ne_old hmm; simp only [push_cast, seval, upd_get, *])); (rintro _ _ ⟨rfl, e2⟩; have e3 := e2.symm; clear e2; subst e3); (try simp only [push_cast, seval, *]))
    | ((first
      | refine AW_region E0 ?_ | refine AW_ret ?_ | refine AW_exit ?_ | refine AW_skip ?_ | unfold retQ); try simp only [push_cast, seval, *])
    | (apply AW_cond; (case hc => (simp only [push_cast, seval]; rfl)); all_goals (intro hc; first | (exfalso; simp only [push_cast, seval, *] at hc; done) | (exact absurd hc (by decide)) | ((try first | rw [Bool.not_true] at hc | rw [Bool.not_false] at hc); first | (with_reducible replace hc := tTT hc); clear hc | (with_reducible replace hc := tFF hc); clear hc | (have hp := hc; try simp only [decide_eq_true_eq, decide_eq_false_iff_not, bA, bB, bC, bD, bE, bF, bG, bH] at hp))))
    | (refine Kn.go hK ?_; clear hK K)
    | refine Kn.go (by assumption) ?_
    | (intro n hn; (try simp only [upd_none2, join_none_iff, ite_none, ne_eq] at hn); (try simp only [push_cast, seval, *]))
    | (intro hc)
    | fail)
        exact ⟨R, unhid hns, by (first | trivial | (simp only [push_cast, seval, *]; done)), by first | (repeat' (first | exact Heap.le_refl _ | refine hle_upd2 ?_ _ _ | (refine Heap.le_new ?_ ?_; rotate_left 1; focus (first | assumption | (simp only [upd_none2, upd_get, ne_eq, push_cast, seval, *]; done) | (simp [upd_get, *]; done))))) | (simp only [push_cast, seval, *])⟩
      · rw [hkx] at hcall
        obtain ⟨hns, hne⟩ := hR.step_yes hx hkx
        rw [hne]
        generalize ((l.take j).filter keep).length = c at *
        have hcj : c < l.length := by omega
        have hcI : (c : Int) < l.length := by omega
        have hcw : IntKind.i64.wrap ((c : Int) + 1) = (c : Int) + 1 := wrap_i64 (by omega) (by omega)
        obtain ⟨row, hrow⟩ : ∃ row, R[c]? = some row := ⟨_, List.getElem?_eq_getElem (by omega)⟩
        obtain ⟨y, rfl⟩ := hR.w row (List.mem_of_getElem? hrow)
        have hey := he y
        have hdy : List.drop 5 (enc y) = [] := List.drop_eq_nil_of_le (by rw [hey]; exact Nat.le_refl _)
        have hay : enc x ++ ([] : List AV) = enc x := List.append_nil _
        replace hns := Lib.hid hns
        replace hR := Lib.hid hR
        repeat' (first
    | refine AW_seq_kn fun K hK => ?_
    | refine AW_block ?_
    | (refine does_call_f rfl (by simp only [push_cast, seval]; rfl) ?_; simp only [push_cast, seval, *]; refine ACall.mono (hcall _ ?hle) ?_; (case hle => (intro m kk hm hmm; have hmn := ne_old hmm; simp only [push_cast, seval, upd_get, *])); (rintro _ _ ⟨rfl, e2⟩; have e3 := e2.symm; clear e2; subst e3); (try simp only [push_cast, seval, *]))
    | ((first
      | refine AW_region E0 ?_ | refine AW_ret ?_ | refine AW_exit ?_ | refine AW_skip ?_ | unfold retQ); try simp only [push_cast, seval, *])
    | (apply AW_cond; (case hc => (simp only [push_cast, seval]; rfl)); all_goals (intro hc; first | (exfalso; simp only [push_cast, seval, *] at hc; done) | (exact absurd hc (by decide)) | ((try first | rw [Bool.not_true] at hc | rw [Bool.not_false] at hc); first | (with_reducible replace hc := tTT hc); clear hc | (with_reducible replace hc := tFF hc); clear hc | (have hp := hc; try simp only [decide_eq_true_eq, decide_eq_false_iff_not, bA, bB, bC, bD, bE, bF, bG, bH] at hp))))
    | (refine Kn.go hK ?_; clear hK K)
    | refine Kn.go (by assumption) ?_
    | (intro n hn; (try simp only [upd_none2, join_none_iff, ite_none, ne_eq] at hn); (try simp only [push_cast, seval, *]))
    | (intro hc)
    | fail)
        exact ⟨_, unhid hns, by (first | trivial | (simp only [push_cast, seval, *]; done)), by (intro m kk hmm; by_cases e : m = nb; (subst e; rw [upd_same] at hmm ⊢; exact hmm); rw [upd_ne e] at hmm ⊢; have e2 : ¬ m = n := (by rintro rfl; rw [hn.2] at hmm; cases hmm); rw [upd_ne e2, upd_ne e]; exact hmm)⟩
    · intro R hR
      have hlen : i + 1 + (l.length - (i + 1)) = l.length := by omega
      rw [hlen] at hR ⊢
      obtain ⟨-, ht, -, -⟩ := hR
      rw [List.take_length] at ht ⊢
      have hfl := List.length_filter_le keep l
      refine AW_shrink (l.filter keep).length ?_
      rw [ht]
      have hml : ((l.filter keep).map enc).length = (l.filter keep).length := List.length_map _
      generalize l.filter keep = L at *
      have hLI : (L.length : Int) ≤ l.length := by omega
      have hLc : (L.length : Int) ≤ cap := by omega
      have hH2 := upd_same H nb (.r 86 5 cap (L.map enc))
      clear hf hst
      repeat' (first
    | refine AW_seq_kn fun K hK => ?_
    | refine AW_block ?_
    | (refine does_clear rfl rfl hH2 hE24 hZ33 rfl (by decide) (by omega) (by omega) ?_; (try simp only [push_cast, seval, *]))
    | ((first
      | refine AW_region E0 ?_ | refine AW_ret ?_ | refine AW_exit ?_ | refine AW_skip ?_ | unfold retQ); try simp only [push_cast, seval, *])
    | (apply AW_cond; (case hc => (simp only [push_cast, seval]; rfl)); all_goals (intro hc; first | (exfalso; simp only [push_cast, seval, *] at hc; done) | (exact absurd hc (by decide)) | ((try first | rw [Bool.not_true] at hc | rw [Bool.not_false] at hc); first | (with_reducible replace hc := tTT hc); clear hc | (with_reducible replace hc := tFF hc); clear hc | (have hp := hc; try simp only [decide_eq_true_eq, decide_eq_false_iff_not, bA, bB, bC, bD, bE, bF, bG, bH] at hp))))
    | (refine Kn.go hK ?_; clear hK K)
    | refine Kn.go (by assumption) ?_
    | (intro n hn; (try simp only [upd_none2, join_none_iff, ite_none, ne_eq] at hn); (try simp only [push_cast, seval, *]))
    | (intro hc)
    | fail)
      exact ⟨_, _, Weak.refl _ _, rfl, rfl⟩
theorem delO_nil (gf : FuncId) (caps : List AV) (ad : Option Addr) (H : Heap) :
    ACall Try.prog 87 [.c (.slice ad 0 0), .f (.func gf) [] caps] H fun r H' => r = .c (.slice ad 0 0) ∧ H' = H := by
  have hix := idxO_nil gf caps ad H
  refine ACall_of' Try.func87 rfl (Ent_of Try.func87 (by kernel_rfl) rfl) (by simp [Try.ntmps87]) ?_; simp only [Try.ntmps87, Try.results87]
  repeat' (first
    | refine AW_seq_kn fun K hK => ?_
    | refine AW_block ?_
    | (refine does_call rfl rfl ?_; simp only [push_cast, seval, *]; refine ACall.mono hix ?_; (rintro _ _ ⟨rfl, e2⟩; have e3 := e2.symm; clear e2; subst e3); (try simp only [push_cast, seval, *]))
    | ((first
      | refine AW_region E0 ?_ | refine AW_ret ?_ | refine AW_exit ?_ | refine AW_skip ?_ | unfold retQ); try simp only [push_cast, seval, *])
    | (apply AW_cond; (case hc => (simp only [push_cast, seval]; rfl)); all_goals (intro hc; first | (exfalso; simp only [push_cast, seval, *] at hc; done) | (exact absurd hc (by decide)) | ((try first | rw [Bool.not_true] at hc | rw [Bool.not_false] at hc); first | (with_reducible replace hc := tTT hc); clear hc | (with_reducible replace hc := tFF hc); clear hc | (have hp := hc; try simp only [decide_eq_true_eq, decide_eq_false_iff_not, bA, bB, bC, bD, bE, bF, bG, bH] at hp))))
    | (refine Kn.go hK ?_; clear hK K)
    | refine Kn.go (by assumption) ?_
    | (intro n hn; (try simp only [upd_none2, join_none_iff, ite_none, ne_eq] at hn); (try simp only [push_cast, seval, *]))
    | (intro hc)
    | fail)
  exact ⟨_, _, Weak.refl _ _, rfl, rfl⟩

def kept (keep : List Nm) (x : Tx) : Bool := decide (x.nm ∈ keep)
def abortL (l : Lg) (keep : List Nm) : Lg := { l with txs := l.txs.filter (kept keep) }
theorem abort11_a (keep : List Nm) (hk : keep.length ≤ maxLen) (p : AV × Tx) (G : Heap) (n3 : Nat) (h3 : G n3 = some (.r 22 1 1 [[.l 3 (keep.map Nm.av)]])) :
    ACall Try.prog 88 ([.g (encX p)] ++ [.p n3 1 0 0]) G fun r H' => r = .c (.bool (!kept keep p.2)) ∧ H' = G := by
  obtain ⟨y, ⟨⟨s, a, m⟩, st, rs⟩⟩ := p
  have hct := hasN_p keep hk ⟨s, a, m⟩
  simp only [kept]
  generalize decide ((⟨s, a, m⟩ : Nm) ∈ keep) = B at *
  simp only [encX, Nm.av] at hct ⊢
  have o3 := ne_old h3
  refine ACall_of' Try.func88 rfl (Ent_of Try.func88 (by kernel_rfl) rfl) (by simp [Try.ntmps88]) ?_; simp only [Try.ntmps88, Try.results88]
  repeat' (first
    | refine AW_seq_kn fun K hK => ?_
    | refine AW_block ?_
    | (refine does_call rfl rfl ?_; simp only [push_cast, seval, *]; refine ACall.monoP (hct _) ?_; (try simp only [push_cast, seval, *]))
    | ((first
      | refine AW_region E0 ?_ | refine AW_ret ?_ | refine AW_exit ?_ | refine AW_skip ?_ | unfold retQ); try simp only [push_cast, seval, *])
    | (apply AW_cond; (case hc => (simp only [push_cast, seval]; rfl)); all_goals (intro hc; first | (exfalso; simp only [push_cast, seval, *] at hc; done) | (exact absurd hc (by decide)) | ((try first | rw [Bool.not_true] at hc | rw [Bool.not_false] at hc); first | (with_reducible replace hc := tTT hc); clear hc | (with_reducible replace hc := tFF hc); clear hc | (have hp := hc; try simp only [decide_eq_true_eq, decide_eq_false_iff_not, bA, bB, bC, bD, bE, bF, bG, bH] at hp))))
    | (refine Kn.go hK ?_; clear hK K)
    | refine Kn.go (by assumption) ?_
    | (intro n hn; (try simp only [upd_none2, join_none_iff, ite_none, ne_eq] at hn); (try simp only [push_cast, seval, *]))
    | (intro hc)
    | fail)
  exact ⟨_, _, Weak.less (by (repeat' (first | exact Heap.le_refl _ | refine hle_upd2 ?_ _ _ | (refine Heap.le_new ?_ ?_; rotate_left 1; focus (first | assumption | (simp only [upd_none2, upd_get, ne_eq, push_cast, seval, *]; done) | (simp [upd_get, *]; done)))))), rfl, rfl⟩
theorem filter_snd {L : List (AV × Tx)} {a : List Tx} {q : Tx → Bool} (h : L.map Prod.snd = a) : (L.filter fun p => q p.2).map Prod.snd = a.filter q := by
  subst h; rw [List.filter_map]; rfl
theorem abort1_a (l : Lg) (hok : lgOk l = true) (keep : List Nm) (hk : keep.length ≤ maxLen) (x1 x2 x3 : AV) (A : Heap) (nb : Nat) (G : Heap) (hnb : G nb = none) (n3 n7 : Nat) (g3 : G n3 = some (.r 22 1 1 [[.l 3 (keep.map Nm.av)]])) (g7 : G n7 = some (.r 3 1 1 [[.c (.int .i64 0)]])) (h : OwnG x1 x2 x3 l A (upd G nb (bxL x1 x2 x3))) :
    ACall Try.prog 86 ([.p nb 3 0 0] ++ [.p n3 1 0 0, .p n7 1 0 0]) A fun r A' => r = .c (.int .i64 0) ∧ PostG 0 (abortL l keep) (fun G' => G' = upd G n7 (.r 3 1 1 [[.c (.int .i64 ((l.txs.length - (abortL l keep).txs.length : Nat) : Int))]])) nb A' := by
  obtain ⟨hb1, hb2, hb3, -, hb5⟩ := lgOk_bd hok
  have b3 : ¬ n3 = nb := by rintro rfl; rw [g3] at hnb; cases hnb
  have b7 : ¬ n7 = nb := by rintro rfl; rw [g7] at hnb; cases hnb
  have b7' : ¬ nb = n7 := fun e => b7 e.symm
  have b37 : ¬ n3 = n7 := by rintro rfl; rw [g3] at g7; simp at g7
  have kb := (OwnG_loc x1 x2 x3 l).get h (upd_same _ _ _)
  have k3 := (OwnG_loc x1 x2 x3 l).get h (m := n3) (by rw [upd_ne b3]; exact g3)
  have k7 := (OwnG_loc x1 x2 x3 l).get h (m := n7) (by rw [upd_ne b7]; exact g7)
  obtain ⟨⟨cs1, cs2, cs3⟩, os1, os2, os3⟩ := OwnG_cs h
  obtain ⟨w1, w2, w3⟩ := OwnG_len h
  obtain ⟨N, hN⟩ : ∃ N, N = abortL l keep := ⟨_, rfl⟩
  rw [← hN]
  unfold abortL at hN
  obtain ⟨a, b, c⟩ := l
  simp only at hb1 hb2 hb3 hb5 w1 w2 w3 hN
  have hNl : N.txs.length ≤ a.length := by rw [hN]; exact List.length_filter_le _ _
  obtain ⟨P1, ⟨L, hLl, A0, o1, o2⟩, P2, h2, h3⟩ := h
  simp only at hLl h2 h3
  have hLn : L.length = a.length := by rw [← hLl]; simp
  have hdel : ACall Try.prog 87 [x1, .f (.func 88) [] [.p n3 1 0 0]] A fun r H' => lenV r = some N.txs.length ∧ r.cs = some [r] ∧ r.one = true ∧ H' nb = some (bxL x1 x2 x3) ∧ H' n7 = some (.r 3 1 1 [[.c (.int .i64 0)]]) ∧ OwnL H' r 86 5 ((L.filter fun p => kept keep p.2).map encX) A0 := by
    have q0 : A0 nb = some (bxL x1 x2 x3) := (Loc.chain RX_loc L).get o2 ((Loc.own _ _ _ _).get h2 ((Loc.own _ _ _ _).get h3 (upd_same _ _ _)))
    have q7 : A0 n7 = some (.r 3 1 1 [[.c (.int .i64 0)]]) := (Loc.chain RX_loc L).get o2 ((Loc.own _ _ _ _).get h2 ((Loc.own _ _ _ _).get h3 (by rw [upd_ne b7]; exact g7)))
    have hlf : ((L.filter fun p => kept keep p.2).map encX).length = N.txs.length := by
      rw [hN]; simp only; rw [← filter_snd hLl]; simp
    have fin : ∀ r H', OwnL H' r 86 5 ((L.filter fun p => kept keep p.2).map encX) A0 → lenV r = some N.txs.length ∧ r.cs = some [r] ∧ r.one = true ∧ H' nb = some (bxL x1 x2 x3) ∧ H' n7 = some (.r 3 1 1 [[.c (.int .i64 0)]]) ∧ OwnL H' r 86 5 ((L.filter fun p => kept keep p.2).map encX) A0 := fun r H' ho =>
      ⟨by rw [ho.len, hlf], ho.cs, ho.one, ho.get q0, ho.get q7, ho⟩
    have o1' := o1
    rcases o1.split with ⟨ad, rfl, e, rfl⟩ | ⟨np, cap, rfl, rfl, hnp⟩
    · have hL : L = [] := List.map_eq_nil_iff.1 e
      refine (delO_nil 88 [.p n3 1 0 0] ad _).mono ?_
      rintro r H' ⟨rfl, rfl⟩
      refine fin _ _ ?_
      rw [hL] at o1' ⊢
      exact o1'
    · have n3p : ¬ n3 = np := by rintro rfl; rw [upd_same] at k3; simp at k3
      have hl : (L.map encX).length = L.length := List.length_map _
      rw [hl] at fin ⊢
      refine (delO_s encX encX_len L (by omega) (fun p => kept keep p.2) 88 [.p n3 1 0 0] _ (upd_same _ _ _) (fun p _ G' hG' => abort11_a keep hk p G' n3 (hG' n3 _ n3p k3))).mono ?_
      rintro r H' ⟨rfl, rfl⟩
      refine fin _ _ ?_
      rw [upd_upd]
      exact OwnL.at (by rw [List.length_map]) hnp
  have hw : IntKind.i64.wrap ((a.length : Int) - N.txs.length) = ((a.length - N.txs.length : Nat) : Int) := by rw [wrap_i64 (by omega) (by omega)]; omega
  obtain ⟨gone, hgo⟩ : ∃ gone, gone = a.length - N.txs.length := ⟨_, rfl⟩
  rw [← hgo] at hw
  simp only
  rw [← hgo]
  replace hgo := Lib.hid hgo
  replace hN := Lib.hid hN
  replace hdel := Lib.hid hdel
  have n7b := b7
  have n73 : ¬ n7 = n3 := fun e => b37 e.symm
  clear hok hb5
  refine ACall_of' Try.func86 rfl (Ent_of Try.func86 (by kernel_rfl) rfl) (by simp [Try.ntmps86]) ?_; simp only [Try.ntmps86, Try.results86]
  repeat' (first
    | refine AW_seq_kn fun K hK => ?_
    | refine AW_block ?_
    | ((first
      | refine AW_region E0 ?_ | refine AW_ret ?_ | refine AW_exit ?_ | refine AW_skip ?_ | unfold retQ); try simp only [push_cast, seval, *])
    | (apply AW_cond; (case hc => (simp only [push_cast, seval]; rfl)); all_goals (intro hc; first | (exfalso; simp only [push_cast, seval, *] at hc; done) | (exact absurd hc (by decide)) | ((try first | rw [Bool.not_true] at hc | rw [Bool.not_false] at hc); first | (with_reducible replace hc := tTT hc); clear hc | (with_reducible replace hc := tFF hc); clear hc | (have hp := hc; try simp only [decide_eq_true_eq, decide_eq_false_iff_not, bA, bB, bC, bD, bE, bF, bG, bH] at hp))))
    | (refine Kn.go hK ?_; clear hK K)
    | refine Kn.go (by assumption) ?_
    | (intro n hn; (try simp only [upd_none2, join_none_iff, ite_none, ne_eq] at hn); (try simp only [push_cast, seval, *]))
    | (intro hc)
    | fail)
  refine does_call rfl rfl ?_
  simp only [push_cast, seval, *]
  refine ACall.mono (unhid hdel) ?_
  rintro r H' ⟨r1, r2, r3, r4, r5, ho⟩
  replace ho := Lib.hid ho
  clear hdel
  (try simp only [push_cast, seval, *])
  repeat' (first
    | refine AW_seq_kn fun K hK => ?_
    | refine AW_block ?_
    | ((first
      | refine AW_region E0 ?_ | refine AW_ret ?_ | refine AW_exit ?_ | refine AW_skip ?_ | unfold retQ); try simp only [push_cast, seval, *])
    | (apply AW_cond; (case hc => (simp only [push_cast, seval]; rfl)); all_goals (intro hc; first | (exfalso; simp only [push_cast, seval, *] at hc; done) | (exact absurd hc (by decide)) | ((try first | rw [Bool.not_true] at hc | rw [Bool.not_false] at hc); first | (with_reducible replace hc := tTT hc); clear hc | (with_reducible replace hc := tFF hc); clear hc | (have hp := hc; try simp only [decide_eq_true_eq, decide_eq_false_iff_not, bA, bB, bC, bD, bE, bF, bG, bH] at hp))))
    | (refine Kn.go hK ?_; clear hK K)
    | refine Kn.go (by assumption) ?_
    | (intro n hn; (try simp only [upd_none2, join_none_iff, ite_none, ne_eq] at hn); (try simp only [push_cast, seval, *]))
    | (intro hc)
    | fail)
  have q2 := (Loc.own _ _ _ _).get h3 (upd_same _ _ _)
  have q1 := (Loc.own _ _ _ _).get h2 q2
  have q0 := (Loc.chain RX_loc L).get o2 q1
  obtain ⟨bk, hbk⟩ : ∃ bk, bk = bxL r x2 x3 := ⟨_, rfl⟩
  obtain ⟨ck, hck⟩ : ∃ ck : Blk, ck = .r 3 1 1 [[.c (.int .i64 (gone : Int))]] := ⟨_, rfl⟩
  have p3 : (upd G nb (bxL x1 x2 x3)) n7 = some (.r 3 1 1 [[.c (.int .i64 0)]]) := by rw [upd_ne b7]; exact g7
  have p2 := (Loc.own _ _ _ _).get h3 p3
  have p1 := (Loc.own _ _ _ _).get h2 p2
  have p0 := (Loc.chain RX_loc L).get o2 p1
  have t1 := ((Loc.own _ _ _ _).turn (unhid ho) q0 bk)
  have t2 := ((Loc.chain RX_loc L).turn o2 q1 bk)
  have t3 := ((Loc.own _ _ _ _).turn h2 q2 bk)
  have t4 := ((Loc.own _ _ _ _).turn h3 (upd_same _ _ _) bk)
  have u1 := (Loc.own _ _ _ _).turn t1 (m := n7) (by rw [upd_ne b7]; exact p0) ck
  have u2 := (Loc.chain RX_loc L).turn t2 (m := n7) (by rw [upd_ne b7]; exact p1) ck
  have u3 := (Loc.own _ _ _ _).turn t3 (m := n7) (by rw [upd_ne b7]; exact p2) ck
  have u4 := (Loc.own _ _ _ _).turn t4 (m := n7) (by rw [upd_ne b7]; exact p3) ck
  rw [upd_upd, show upd (upd G nb bk) n7 ck = upd (upd G n7 ck) nb bk from upd_comm b7'] at u4
  obtain ⟨Z, z1, z2⟩ := Chain.sub RX_loc (fun p => kept keep p.2) u2
  obtain ⟨H4, k1, k2⟩ := (Loc.own _ _ _ _).cut u1 z1
  have hG : OwnG r x2 x3 N H4 (upd (upd G n7 ck) nb bk) := by
    rw [unhid hN]
    exact ⟨_, ⟨_, filter_snd hLl, Z, k2, z2⟩, _, u3, u4⟩
  rw [hbk, hck] at hG k1
  exact ⟨_, H4, Weak.less k1, rfl, .inl ⟨rfl, r, x2, x3, _, rfl, by rw [upd_ne b7']; exact hnb, hG⟩⟩
def abortR (l : Lg) (keep : List Nm) : Lg × Int × Int := ((wRes l keep 0 (abortL l keep)).1, if lgOk l = true ∧ keep.all nmOk = true then ((l.txs.length - (abortL l keep).txs.length : Nat) : Int) else 0, (wRes l keep 0 (abortL l keep)).2)
theorem Abort_o (l : Lg) (hf : l.fits) (keep : List Nm) (hk : keep.length ≤ maxLen) (H : Heap) :
    ACall Try.prog 46 [.g (Lg.av l), .l 3 (keep.map Nm.av)] H fun r H' => ∃ y1 y2 y3, r = .t [gl y1 y2 y3, .c (.int .i64 (abortR l keep).2.1), .c (.int .i64 (abortR l keep).2.2)] ∧ OwnG y1 y2 y3 (abortR l keep).1 H' H := by
  have hw : ∀ (G : Heap) (n3 n7 : Nat), G n3 = some (.r 22 1 1 [[.l 3 (keep.map Nm.av)]]) → G n7 = some (.r 3 1 1 [[.c (.int .i64 0)]]) →
      ACall Try.prog 75 [.g (Lg.av l), .f (.func 86) [] [.p n3 1 0 0, .p n7 1 0 0], .l 3 (keep.map Nm.av)] G fun r H' => ∃ y1 y2 y3 G', r = .t [gl y1 y2 y3, .c (.int .i64 (abortR l keep).2.2)] ∧ OwnG y1 y2 y3 (abortR l keep).1 H' G' ∧ G' = upd G n7 (.r 3 1 1 [[.c (.int .i64 (abortR l keep).2.1)]]) := fun G n3 n7 g3 g7 => by
    refine with_all l hf keep hk 86 [.p n3 1 0 0, .p n7 1 0 0] G 0 (abortL l keep) (fun G' => G' = upd G n7 (.r 3 1 1 [[.c (.int .i64 (abortR l keep).2.1)]])) (fun hn => ?_) (fun hok hno x1 x2 x3 A nb hnb ho => ?_)
    · have e : (abortR l keep).2.1 = 0 := by
        unfold abortR
        simp only
        rw [if_neg (by rintro ⟨h1, h2⟩; rcases hn with h | h <;> simp_all)]
      rw [e]; exact (upd_self g7).symm
    · have e : (abortR l keep).2.1 = ((l.txs.length - (abortL l keep).txs.length : Nat) : Int) := by
        unfold abortR
        simp only
        rw [if_pos ⟨hok, hno⟩]
      rw [e]
      exact abort1_a l hok keep hk x1 x2 x3 A nb G hnb n3 n7 g3 g7 ho
  generalize abortR l keep = R at *
  obtain ⟨R1, R2, R3⟩ := R
  obtain ⟨a, b, c⟩ := l
  simp only [Lg.av] at hw ⊢
  clear hf
  replace hw := Lib.hid hw
  refine ACall_of' Try.func46 rfl (Ent_of Try.func46 (by kernel_rfl) rfl) (by simp [Try.ntmps46]) ?_; simp only [Try.ntmps46, Try.results46]
  repeat' (first
    | refine AW_seq_kn fun K hK => ?_
    | refine AW_block ?_
    | ((first
      | refine AW_region_draw (id := 3) E0 (fun f => [].contains f) dLO0 dAO0 mixed (by kernel_rfl) ?_
      | refine AW_region E0 ?_ | refine AW_ret ?_ | refine AW_exit ?_ | refine AW_skip ?_ | unfold retQ); try simp only [push_cast, seval, *])
    | (apply AW_cond; (case hc => (simp only [push_cast, seval]; rfl)); all_goals (intro hc; first | (exfalso; simp only [push_cast, seval, *] at hc; done) | (exact absurd hc (by decide)) | ((try first | rw [Bool.not_true] at hc | rw [Bool.not_false] at hc); first | (with_reducible replace hc := tTT hc); clear hc | (with_reducible replace hc := tFF hc); clear hc | (have hp := hc; try simp only [decide_eq_true_eq, decide_eq_false_iff_not, bA, bB, bC, bD, bE, bF, bG, bH] at hp))))
    | (refine Kn.go hK ?_; clear hK K)
    | refine Kn.go (by assumption) ?_
    | (intro n hn; (try simp only [upd_none2, join_none_iff, ite_none, ne_eq] at hn); (try simp only [push_cast, seval, *]))
    | (intro hc)
    | fail)
  rename_i n1 h1 n2 h2 n3 h3
  generalize n = n4 at *
  obtain ⟨Gs, hGs⟩ : ∃ Gs : Heap, Gs = upd (upd (upd (upd H n1 (.r 47 3 1 [[.l 5 (a.map Tx.av), .l 3 (b.map Nm.av), .l 3 (c.map Rec.av)]])) n2 (.r 22 1 1 [[.l 3 (keep.map Nm.av)]])) n3 (.r 47 3 1 [zL])) n4 (.r 3 1 1 [[.c (.int .i64 0)]]) := ⟨_, rfl⟩
  have g2 : Gs n2 = some (.r 22 1 1 [[.l 3 (keep.map Nm.av)]]) := by rw [hGs]; simp only [push_cast, seval, upd_get, *]
  have g3 : Gs n3 = some (.r 47 3 1 [zL]) := by rw [hGs]; simp only [push_cast, seval, upd_get, *]
  have g4 : Gs n4 = some (.r 3 1 1 [[.c (.int .i64 0)]]) := by rw [hGs]; exact upd_same _ _ _
  have gn3 : H n3 = none := h3.2.2
  have gn4 : H n4 = none := hn.2.2.2
  have d34 : ¬ n3 = n4 := hn.1.2
  have d43 : ¬ n4 = n3 := hn.1.1
  have hle : Heap.le H Gs := by rw [hGs]; (repeat' (first | exact Heap.le_refl _ | refine hle_upd2 ?_ _ _ | (refine Heap.le_new ?_ ?_; rotate_left 1; focus (first | assumption | (simp only [upd_none2, upd_get, ne_eq, push_cast, seval, *]; done) | (simp [upd_get, *]; done)))))
  rw [← hGs]
  clear hGs h1 h2 h3 hn
  refine does_call rfl rfl ?_
  simp only [push_cast, seval, *]
  refine ACall.mono (unhid hw Gs n2 n4 g2 g4) ?_
  rintro _ H' ⟨y1, y2, y3, _, rfl, ho, rfl⟩
  have k3 := (OwnG_loc y1 y2 y3 R1).get ho (m := n3) (by rw [upd_ne d34]; exact g3)
  have k4 := (OwnG_loc y1 y2 y3 R1).get ho (upd_same _ _ _)
  obtain ⟨H2, l1, l2, l3⟩ := (OwnG_loc y1 y2 y3 R1).cutx ho (K := H) (le_skip hle gn4)
  have l4 := l3 n3 (by rw [upd_ne d34, g3]; simp) gn3
  obtain ⟨⟨u1, u2, u3⟩, v1, v2, v3⟩ := OwnG_cs l2
  have o3 := ne_old k3
  have o4 := ne_old k4
  clear hw ho g2 g3 g4 gn3 gn4 hle l3
  replace l1 := Lib.hid l1
  replace l2 := Lib.hid l2
  replace l4 := Lib.hid l4
  (try simp only [push_cast, seval, *])
  repeat' (first
    | refine AW_seq_kn fun K hK => ?_
    | refine AW_block ?_
    | ((first
      | refine AW_region_draw (id := 3) E0 (fun f => [].contains f) dLO0 dAO0 mixed (by kernel_rfl) ?_
      | refine AW_region E0 ?_ | refine AW_ret ?_ | refine AW_exit ?_ | refine AW_skip ?_ | unfold retQ); try simp only [push_cast, seval, *])
    | (apply AW_cond; (case hc => (simp only [push_cast, seval]; rfl)); all_goals (intro hc; first | (exfalso; simp only [push_cast, seval, *] at hc; done) | (exact absurd hc (by decide)) | ((try first | rw [Bool.not_true] at hc | rw [Bool.not_false] at hc); first | (with_reducible replace hc := tTT hc); clear hc | (with_reducible replace hc := tFF hc); clear hc | (have hp := hc; try simp only [decide_eq_true_eq, decide_eq_false_iff_not, bA, bB, bC, bD, bE, bF, bG, bH] at hp))))
    | (refine Kn.go hK ?_; clear hK K)
    | refine Kn.go (by assumption) ?_
    | (intro n hn; (try simp only [upd_none2, join_none_iff, ite_none, ne_eq] at hn); (try simp only [push_cast, seval, *]))
    | (intro hc)
    | fail)
  exact ⟨_, H2, Weak.less (by repeat' (first | exact unhid l1 | refine le_skip ?_ (unhid l4) | refine le_skip ?_ (le_no (unhid l1) hn))), y1, y2, y3, rfl, unhid l2⟩
end Go.Proofs.Ytdeckjoeggmagaa
