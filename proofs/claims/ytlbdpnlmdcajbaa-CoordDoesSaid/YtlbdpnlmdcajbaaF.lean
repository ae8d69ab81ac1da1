/- Walks: of the library, over rows of pendings and acks. -/
import Derived.Test.YtlbdpnlmdcajbaaA
namespace Go.Proofs.Ytlbdpnlmdcajbaa
open Go.RowKit
open Nat renaming reduceEqDiff → nA, reduceLT → nB, reduceLeDiff → nC, reduceAdd → nD, reduceMul → nE, reduceSub → nF, reduceBEq → nG
open Int renaming reduceToNat → iA, reduceLT → iB, reduceLE → iC, reduceEq → iD
open Bool renaming and_eq_true → bA, or_eq_true → bB, or_eq_false_iff → bC, and_eq_false_iff → bD, not_eq_true' → bE, not_eq_false' → bF, not_true → bG, not_false → bH
set_option linter.all false
set_option maxHeartbeats 4000000
attribute [local irreducible] AW Does ACall tE tS tB tZ

theorem idxO {α : Type} (enc : α → List AV) (he : ∀ x, (enc x).length = 4) (l : List α) (hl : l.length ≤ 1000000) (p : α → Bool) (gf : FuncId) (caps : List AV) (H : Heap) {n cap : Nat} {ty : TypeId} (hH : H n = some (.r ty 4 cap (l.map enc)))
    (hf : ∀ x ∈ l, ∀ G, Heap.le H G → ACall Try.prog gf ([.g (enc x)] ++ caps) G fun r H' => r = .c (.bool (p x)) ∧ H' = G) :
    ACall Try.prog 78 [.s n 4 0 l.length cap, .f (.func gf) [] caps] H fun r H' => r = .c (.int .i64 (idxS p l)) ∧ H' = H := by
  refine ACall_of' Try.func78 rfl (Ent_of Try.func78 (by kernel_rfl) rfl) (by simp [Try.ntmps78]) ?_; simp only [Try.ntmps78, Try.results78]
  repeat' (first
    | refine AW_seq_kn fun K hK => ?_
    | refine AW_block ?_
    | ((first
      | refine AW_region E0 ?_ | refine AW_ret ?_ | refine AW_exit ?_ | refine AW_skip ?_ | unfold retQ); try simp only [push_cast, seval, *])
    | (apply AW_cond; (case hc => (simp only [push_cast, seval]; rfl)); all_goals (intro hc; first | (exfalso; simp only [push_cast, seval, *] at hc; done) | (exact absurd hc (by decide)) | ((try first | rw [Bool.not_true] at hc | rw [Bool.not_false] at hc); first | (with_reducible replace hc := tTT hc); clear hc | (with_reducible replace hc := tFF hc); clear hc | (have hp := hc; try simp only [decide_eq_true_eq, decide_eq_false_iff_not, bA, bB, bC, bD, bE, bF, bG, bH] at hp))))
    | (refine Kn.go hK ?_; clear hK K)
    | refine Kn.go (by assumption) ?_
    | (intro n hn; (try simp only [upd_none2, join_none_iff, ite_none, ne_eq] at hn); (try simp only [push_cast, seval, *]))
    | (intro hc)
    | fail)
  refine AW_loopS (fun k : Nat => k ≤ l.length ∧ ∀ j y, j < k → l[j]? = some y → p y = false) (fun k => [(0, .s n 4 0 l.length cap), (1, .f (.func gf) [] caps), (7, .c (.int .i64 l.length)), (8, .c (.int .i64 k))]) (fun _ => H) (fun k => l.length - k) 0 ⟨Nat.zero_le _, fun j y hj => by omega⟩ ?_ (Heap.le_refl _) ?_
  · simp only [push_cast, seval, *]
  · rintro k ⟨hk, hno⟩
    by_cases hlt : k < l.length
    · have hx := List.getElem?_eq_getElem hlt
      generalize l[k] = x at hx
      have hlt' : (k : Int) < l.length := by omega
      have htk : List.take 4 (enc x) = enc x := List.take_of_length_le (Nat.le_of_eq (he x))
      have hex := he x
      have hwk : IntKind.i64.wrap ((k : Int) + 1) = (k : Int) + 1 := wrap_i64 (by omega) (by omega)
      have hcall := hf x (List.mem_of_getElem? hx)
      simp only [push_cast, seval] at hcall
      clear hf
      cases hpx : p x
      · rw [hpx] at hcall
        repeat' (first
    | refine AW_seq_kn fun K hK => ?_
    | refine AW_block ?_
    | (refine does_call_f rfl (by simp only [push_cast, seval]; rfl) ?_; simp only [push_cast, seval, *]; refine ACall.mono (hcall _ ?hle) ?_; (case hle => (repeat' (first | exact Heap.le_refl _ | refine hle_upd2 ?_ _ _ | (refine Heap.le_new ?_ ?_; rotate_left 1; focus (first | assumption | (simp only [upd_none2, upd_get, ne_eq, push_cast, seval, *]; done) | (simp [upd_get, *]; done)))))); (rintro _ _ ⟨rfl, e2⟩; have e3 := e2.symm; clear e2; subst e3); (try simp only [push_cast, seval, *]))
    | ((first
      | refine AW_region E0 ?_ | refine AW_ret ?_ | refine AW_exit ?_ | refine AW_skip ?_ | unfold retQ); try simp only [push_cast, seval, *])
    | (apply AW_cond; (case hc => (simp only [push_cast, seval]; rfl)); all_goals (intro hc; first | (exfalso; simp only [push_cast, seval, *] at hc; done) | (exact absurd hc (by decide)) | ((try first | rw [Bool.not_true] at hc | rw [Bool.not_false] at hc); first | (with_reducible replace hc := tTT hc); clear hc | (with_reducible replace hc := tFF hc); clear hc | (have hp := hc; try simp only [decide_eq_true_eq, decide_eq_false_iff_not, bA, bB, bC, bD, bE, bF, bG, bH] at hp))))
    | (refine Kn.go hK ?_; clear hK K)
    | refine Kn.go (by assumption) ?_
    | (intro n hn; (try simp only [upd_none2, join_none_iff, ite_none, ne_eq] at hn); (try simp only [push_cast, seval, *]))
    | (intro hc)
    | fail)
        refine ⟨k + 1, ⟨by omega, fun j y hj hy => ?_⟩, by simp only [push_cast, seval, *], by omega⟩
        by_cases e : j = k
        · subst e; rw [hx] at hy; cases hy; exact hpx
        · exact hno j y (by omega) hy
      · rw [hpx] at hcall
        repeat' (first
    | refine AW_seq_kn fun K hK => ?_
    | refine AW_block ?_
    | (refine does_call_f rfl (by simp only [push_cast, seval]; rfl) ?_; simp only [push_cast, seval, *]; refine ACall.mono (hcall _ ?hle) ?_; (case hle => (repeat' (first | exact Heap.le_refl _ | refine hle_upd2 ?_ _ _ | (refine Heap.le_new ?_ ?_; rotate_left 1; focus (first | assumption | (simp only [upd_none2, upd_get, ne_eq, push_cast, seval, *]; done) | (simp [upd_get, *]; done)))))); (rintro _ _ ⟨rfl, e2⟩; have e3 := e2.symm; clear e2; subst e3); (try simp only [push_cast, seval, *]))
    | ((first
      | refine AW_region E0 ?_ | refine AW_ret ?_ | refine AW_exit ?_ | refine AW_skip ?_ | unfold retQ); try simp only [push_cast, seval, *])
    | (apply AW_cond; (case hc => (simp only [push_cast, seval]; rfl)); all_goals (intro hc; first | (exfalso; simp only [push_cast, seval, *] at hc; done) | (exact absurd hc (by decide)) | ((try first | rw [Bool.not_true] at hc | rw [Bool.not_false] at hc); first | (with_reducible replace hc := tTT hc); clear hc | (with_reducible replace hc := tFF hc); clear hc | (have hp := hc; try simp only [decide_eq_true_eq, decide_eq_false_iff_not, bA, bB, bC, bD, bE, bF, bG, bH] at hp))))
    | (refine Kn.go hK ?_; clear hK K)
    | refine Kn.go (by assumption) ?_
    | (intro n hn; (try simp only [upd_none2, join_none_iff, ite_none, ne_eq] at hn); (try simp only [push_cast, seval, *]))
    | (intro hc)
    | fail)
        exact ⟨_, _, Weak.less (by first | (repeat' (first | exact Heap.le_refl _ | refine hle_upd2 ?_ _ _ | (refine Heap.le_new ?_ ?_; rotate_left 1; focus (first | assumption | (simp only [upd_none2, upd_get, ne_eq, push_cast, seval, *]; done) | (simp [upd_get, *]; done))))) | (simp only [push_cast, seval, *])), by rw [idxS_some hx hpx hno], rfl⟩
    · have hlt' : ¬ (k : Int) < l.length := by omega
      repeat' (first
    | refine AW_seq_kn fun K hK => ?_
    | refine AW_block ?_
    | ((first
      | refine AW_region E0 ?_ | refine AW_ret ?_ | refine AW_exit ?_ | refine AW_skip ?_ | unfold retQ); try simp only [push_cast, seval, *])
    | (apply AW_cond; (case hc => (simp only [push_cast, seval]; rfl)); all_goals (intro hc; first | (exfalso; simp only [push_cast, seval, *] at hc; done) | (exact absurd hc (by decide)) | ((try first | rw [Bool.not_true] at hc | rw [Bool.not_false] at hc); first | (with_reducible replace hc := tTT hc); clear hc | (with_reducible replace hc := tFF hc); clear hc | (have hp := hc; try simp only [decide_eq_true_eq, decide_eq_false_iff_not, bA, bB, bC, bD, bE, bF, bG, bH] at hp))))
    | (refine Kn.go hK ?_; clear hK K)
    | refine Kn.go (by assumption) ?_
    | (intro n hn; (try simp only [upd_none2, join_none_iff, ite_none, ne_eq] at hn); (try simp only [push_cast, seval, *]))
    | (intro hc)
    | fail)
      have hno' : ∀ (j : Nat) (y : α), l[j]? = some y → p y = false := fun j y hy => by
        have := (List.getElem?_eq_some_iff.1 hy).1
        exact hno j y (by omega) hy
      exact ⟨_, _, Weak.refl _ _, by rw [idxS_none hno'], rfl⟩
theorem idxO_nil (gf : FuncId) (caps : List AV) (ad : Option Addr) (H : Heap) :
    ACall Try.prog 78 [.c (.slice ad 0 0), .f (.func gf) [] caps] H fun r H' => r = .c (.int .i64 (-1)) ∧ H' = H := by
  refine ACall_of' Try.func78 rfl (Ent_of Try.func78 (by kernel_rfl) rfl) (by simp [Try.ntmps78]) ?_; simp only [Try.ntmps78, Try.results78]
  repeat' (first
    | refine AW_seq_kn fun K hK => ?_
    | refine AW_block ?_
    | ((first
      | refine AW_region E0 ?_ | refine AW_ret ?_ | refine AW_exit ?_ | refine AW_skip ?_ | unfold retQ); try simp only [push_cast, seval, *])
    | (apply AW_cond; (case hc => (simp only [push_cast, seval]; rfl)); all_goals (intro hc; first | (exfalso; simp only [push_cast, seval, *] at hc; done) | (exact absurd hc (by decide)) | ((try first | rw [Bool.not_true] at hc | rw [Bool.not_false] at hc); first | (with_reducible replace hc := tTT hc); clear hc | (with_reducible replace hc := tFF hc); clear hc | (have hp := hc; try simp only [decide_eq_true_eq, decide_eq_false_iff_not, bA, bB, bC, bD, bE, bF, bG, bH] at hp))))
    | (refine Kn.go hK ?_; clear hK K)
    | refine Kn.go (by assumption) ?_
    | (intro n hn; (try simp only [upd_none2, join_none_iff, ite_none, ne_eq] at hn); (try simp only [push_cast, seval, *]))
    | (intro hc)
    | fail)
  refine AW_loopS (σ := Unit) (fun _ => True) (fun _ => [(0, .c (.slice ad 0 0)), (1, .f (.func gf) [] caps), (7, .c (.int .i64 0)), (8, .c (.int .i64 0))]) (fun _ => H) (fun _ => 0) () trivial ?_ (Heap.le_refl _) ?_
  · simp only [push_cast, seval, *]
  · intro _ _
    repeat' (first
    | refine AW_seq_kn fun K hK => ?_
    | refine AW_block ?_
    | ((first
      | refine AW_region E0 ?_ | refine AW_ret ?_ | refine AW_exit ?_ | refine AW_skip ?_ | unfold retQ); try simp only [push_cast, seval, *])
    | (apply AW_cond; (case hc => (simp only [push_cast, seval]; rfl)); all_goals (intro hc; first | (exfalso; simp only [push_cast, seval, *] at hc; done) | (exact absurd hc (by decide)) | ((try first | rw [Bool.not_true] at hc | rw [Bool.not_false] at hc); first | (with_reducible replace hc := tTT hc); clear hc | (with_reducible replace hc := tFF hc); clear hc | (have hp := hc; try simp only [decide_eq_true_eq, decide_eq_false_iff_not, bA, bB, bC, bD, bE, bF, bG, bH] at hp))))
    | (refine Kn.go hK ?_; clear hK K)
    | refine Kn.go (by assumption) ?_
    | (intro n hn; (try simp only [upd_none2, join_none_iff, ite_none, ne_eq] at hn); (try simp only [push_cast, seval, *]))
    | (intro hc)
    | fail)
    exact ⟨_, _, Weak.refl _ _, rfl, rfl⟩

theorem delO_s {α : Type} (enc : α → List AV) (he : ∀ x, (enc x).length = 4) (l : List α) (hl : l.length ≤ 1000000) (keep : α → Bool) (gf : FuncId) (caps : List AV) (H : Heap) {nb cap : Nat} (hH : H nb = some (.r 61 4 cap (l.map enc)))
    (hf : ∀ x ∈ l, ∀ G, (∀ m k, m ≠ nb → H m = some k → G m = some k) → ACall Try.prog gf ([.g (enc x)] ++ caps) G fun r H' => r = .c (.bool (!keep x)) ∧ H' = G) :
    ACall Try.prog 87 [.s nb 4 0 l.length cap, .f (.func gf) [] caps] H fun r H' => r = .s nb 4 0 (l.filter keep).length cap ∧ H' = upd H nb (.r 61 4 cap ((l.filter keep).map enc)) := by
  have hix := idxO enc he l hl (fun x => !keep x) gf caps H hH (fun x hx G hG => hf x hx G (fun m k _ hm => hG m k hm))
  refine ACall.blk (Ent_of Try.func87 (by kernel_rfl) rfl) hH fun hcap hmax _ _ => ?_
  rw [List.length_map] at hcap
  have hcapI : (l.length : Int) ≤ cap := by omega
  rcases idxS_cases (fun x => !keep x) l with ⟨e, hall⟩ | ⟨i, x0, e, hx0, hk0, hb⟩
  · rw [e] at hix
    have hfl : l.filter keep = l := List.filter_eq_self.2 (fun x hx => by simpa using hall x hx)
    rw [hfl]
    clear hall hf
    refine ACall_of' Try.func87 rfl (Ent_of Try.func87 (by kernel_rfl) rfl) (by simp [Try.ntmps87]) ?_; simp only [Try.ntmps87, Try.results87]
    repeat' (first
    | refine AW_seq_kn fun K hK => ?_
    | refine AW_block ?_
    | (refine does_call rfl rfl ?_; simp only [push_cast, seval, *]; refine ACall.mono hix ?_; (rintro _ _ ⟨rfl, e2⟩; have e3 := e2.symm; clear e2; subst e3); (try simp only [push_cast, seval, *]))
    | ((first
      | refine AW_region E0 ?_ | refine AW_ret ?_ | refine AW_exit ?_ | refine AW_skip ?_ | unfold retQ); try simp only [push_cast, seval, *])
    | (apply AW_cond; (case hc => (simp only [push_cast, seval]; rfl)); all_goals (intro hc; first | (exfalso; simp only [push_cast, seval, *] at hc; done) | (exact absurd hc (by decide)) | ((try first | rw [Bool.not_true] at hc | rw [Bool.not_false] at hc); first | (with_reducible replace hc := tTT hc); clear hc | (with_reducible replace hc := tFF hc); clear hc | (have hp := hc; try simp only [decide_eq_true_eq, decide_eq_false_iff_not, bA, bB, bC, bD, bE, bF, bG, bH] at hp))))
    | (refine Kn.go hK ?_; clear hK K)
    | refine Kn.go (by assumption) ?_
    | (intro n hn; (try simp only [upd_none2, join_none_iff, ite_none, ne_eq] at hn); (try simp only [push_cast, seval, *]))
    | (intro hc)
    | fail)
    exact ⟨_, _, Weak.refl _ _, rfl, (upd_self hH).symm⟩
  · rw [e] at hix
    have hi := (List.getElem?_eq_some_iff.1 hx0).1
    obtain ⟨hst, hsl⟩ := DR.start (enc := enc) (keep := keep) (fun j y hj hy => by simpa using hb j y hj hy) hx0 (by simpa using hk0)
    have hiw : IntKind.i64.wrap ((i : Int) + 1) = (i : Int) + 1 := wrap_i64 (by omega) (by omega)
    have hi1 : ¬ (i : Int) = -1 := by omega
    have hE24 := tE28
    have hZ33 := tZ61
    clear hb hk0 hx0 e
    replace hst := Lib.hid hst
    refine ACall_of' Try.func87 rfl (Ent_of Try.func87 (by kernel_rfl) rfl) (by simp [Try.ntmps87]) ?_; simp only [Try.ntmps87, Try.results87]
    repeat' (first
    | refine AW_seq_kn fun K hK => ?_
    | refine AW_block ?_
    | (refine does_call rfl rfl ?_; simp only [push_cast, seval, *]; refine ACall.mono hix ?_; (rintro _ _ ⟨rfl, e2⟩; have e3 := e2.symm; clear e2; subst e3); (try simp only [push_cast, seval, *]))
    | ((first
      | refine AW_region E0 ?_ | refine AW_ret ?_ | refine AW_exit ?_ | refine AW_skip ?_ | unfold retQ); try simp only [push_cast, seval, *])
    | (apply AW_cond; (case hc => (simp only [push_cast, seval]; rfl)); all_goals (intro hc; first | (exfalso; simp only [push_cast, seval, *] at hc; done) | (exact absurd hc (by decide)) | ((try first | rw [Bool.not_true] at hc | rw [Bool.not_false] at hc); first | (with_reducible replace hc := tTT hc); clear hc | (with_reducible replace hc := tFF hc); clear hc | (have hp := hc; try simp only [decide_eq_true_eq, decide_eq_false_iff_not, bA, bB, bC, bD, bE, bF, bG, bH] at hp))))
    | (refine Kn.go hK ?_; clear hK K)
    | refine Kn.go (by assumption) ?_
    | (intro n hn; (try simp only [upd_none2, join_none_iff, ite_none, ne_eq] at hn); (try simp only [push_cast, seval, *]))
    | (intro hc)
    | fail)
    clear hix
    refine AW_loopX (σ := List (List AV)) (l.length - (i + 1)) (fun k R => DR enc l keep (i + 1 + k) R) (fun k _ => [(0, .s nb 4 0 l.length cap), (1, .f (.func gf) [] caps), (5, ci ((l.take (i + 1 + k)).filter keep).length), (6, ci (i + 1 + k : Nat))]) (fun _ R => upd H nb (.r 61 4 cap R)) (l.map enc) (unhid hst) ?_ ?_ ?_ ?_
    · rw [Nat.add_zero, hsl]; ((first | trivial | (simp only [push_cast, seval, *]; done)))
    · rw [upd_self hH]; exact Heap.le_refl _
    · intro k R hk hR
      have hjl : i + 1 + k < l.length := by omega
      have hj1 : i + 1 + (k + 1) = i + 1 + k + 1 := by omega
      rw [hj1]
      have hcl := DR.le l keep (i + 1 + k)
      generalize i + 1 + k = j at *
      obtain ⟨x, hx⟩ : ∃ x, l[j]? = some x := ⟨_, List.getElem?_eq_getElem hjl⟩
      have hRj : R[j]? = some (enc x) := by rw [hR.b j (Nat.le_refl _), List.getElem?_map, hx]; rfl
      have hRl := hR.n
      have hjI : (j : Int) < l.length := by omega
      have hjw : IntKind.i64.wrap ((j : Int) + 1) = (j : Int) + 1 := wrap_i64 (by omega) (by omega)
      have htk : List.take 4 (enc x) = enc x := List.take_of_length_le (Nat.le_of_eq (he x))
      have hex := he x
      have hcall := hf x (List.mem_of_getElem? hx)
      simp only [push_cast, seval] at hcall
      clear hf
      cases hkx : keep x
      · rw [hkx] at hcall
        have hns := hR.step_no hx hkx
        have hne : ((l.take (j + 1)).filter keep).length = ((l.take j).filter keep).length := by rw [take_snoc hx, List.filter_append]; simp [hkx]
        rw [hne]
        generalize ((l.take j).filter keep).length = c at *
        replace hns := Lib.hid hns
        replace hR := Lib.hid hR
        repeat' (first
    | refine AW_seq_kn fun K hK => ?_
    | refine AW_block ?_
    | (refine does_call_f rfl (by simp only [push_cast, seval]; rfl) ?_; simp only [push_cast, seval, *]; refine ACall.mono (hcall _ ?hle) ?_; (case hle => (intro m kk hm hmm; have hmn := ne_old hmm; simp only [push_cast, seval, upd_get, *])); (rintro _ _ ⟨rfl, e2⟩; have e3 := e2.symm; clear e2; subst e3); (try simp only [push_cast, seval, *]))
    | ((first
      | refine AW_region E0 ?_ | refine AW_ret ?_ | refine AW_exit ?_ | refine AW_skip ?_ | unfold retQ); try simp only [push_cast, seval, *])
    | (apply AW_cond; (case hc => (simp only [push_cast, seval]; rfl)); all_goals (intro hc; first | (exfalso; simp only [push_cast, seval, *] at hc; done) | (exact absurd hc (by decide)) | ((try first | rw [Bool.not_true] at hc | rw [Bool.not_false] at hc); first | (with_reducible replace hc := tTT hc); clear hc | (with_reducible replace hc := tFF hc); clear hc | (have hp := hc; try simp only [decide_eq_true_eq, decide_eq_false_iff_not, bA, bB, bC, bD, bE, bF, bG, bH] at hp))))
    | (refine Kn.go hK ?_; clear hK K)
    | refine Kn.go (by assumption) ?_
    | (intro n hn; (try simp only [upd_none2, join_none_iff, ite_none, ne_eq] at hn); (try simp only [push_cast, seval, *]))
    | (intro hc)
    | fail)
        exact ⟨R, unhid hns, by (first | trivial | (simp only [push_cast, seval, *]; done)), by first | (repeat' (first | exact Heap.le_refl _ | refine hle_upd2 ?_ _ _ | (refine Heap.le_new ?_ ?_; rotate_left 1; focus (first | assumption | (simp only [upd_none2, upd_get, ne_eq, push_cast, seval, *]; done) | (simp [upd_get, *]; done))))) | (simp only [push_cast, seval, *])⟩
      · rw [hkx] at hcall
        obtain ⟨hns, hne⟩ := hR.step_yes hx hkx
        rw [hne]
        generalize ((l.take j).filter keep).length = c at *
        have hcj : c < l.length := by omega
        have hcI : (c : Int) < l.length := by omega
        have hcw : IntKind.i64.wrap ((c : Int) + 1) = (c : Int) + 1 := wrap_i64 (by omega) (by omega)
        obtain ⟨row, hrow⟩ : ∃ row, R[c]? = some row := ⟨_, List.getElem?_eq_getElem (by omega)⟩
        obtain ⟨y, rfl⟩ := hR.w row (List.mem_of_getElem? hrow)
        have hey := he y
        have hdy : List.drop 4 (enc y) = [] := List.drop_eq_nil_of_le (by rw [hey]; exact Nat.le_refl _)
        have hay : enc x ++ ([] : List AV) = enc x := List.append_nil _
        replace hns := Lib.hid hns
        replace hR := Lib.hid hR
        repeat' (first
    | refine AW_seq_kn fun K hK => ?_
    | refine AW_block ?_
    | (refine does_call_f rfl (by simp only [push_cast, seval]; rfl) ?_; simp only [push_cast, seval, *]; refine ACall.mono (hcall _ ?hle) ?_; (case hle => (intro m kk hm hmm; have hmn := ne_old hmm; simp only [push_cast, seval, upd_get, *])); (rintro _ _ ⟨rfl, e2⟩; have e3 := e2.symm; clear e2; subst e3); (try simp only [push_cast, seval, *]))
    | ((first
      | refine AW_region E0 ?_ | refine AW_ret ?_ | refine AW_exit ?_ | refine AW_skip ?_ | unfold retQ); try simp only [push_cast, seval, *])
    | (apply AW_cond; (case hc => (simp only [push_cast, seval]; rfl)); all_goals (intro hc; first | (exfalso; simp only [push_cast, seval, *] at hc; done) | (exact absurd hc (by decide)) | ((try first | rw [Bool.not_true] at hc | rw [Bool.not_false] at hc); first | (with_reducible replace hc := tTT hc); clear hc | (with_reducible replace hc := tFF hc); clear hc | (have hp := hc; try simp only [decide_eq_true_eq, decide_eq_false_iff_not, bA, bB, bC, bD, bE, bF, bG, bH] at hp))))
    | (refine Kn.go hK ?_; clear hK K)
    | refine Kn.go (by assumption) ?_
    | (intro n hn; (try simp only [upd_none2, join_none_iff, ite_none, ne_eq] at hn); (try simp only [push_cast, seval, *]))
    | (intro hc)
    | fail)
        exact ⟨_, unhid hns, by (first | trivial | (simp only [push_cast, seval, *]; done)), by (intro m kk hmm; by_cases e : m = nb; (subst e; rw [upd_same] at hmm ⊢; exact hmm); rw [upd_ne e] at hmm ⊢; have e2 : ¬ m = n := (by rintro rfl; rw [hn.2] at hmm; cases hmm); rw [upd_ne e2, upd_ne e]; exact hmm)⟩
    · intro R hR
      have hlen : i + 1 + (l.length - (i + 1)) = l.length := by omega
      rw [hlen] at hR ⊢
      obtain ⟨-, ht, -, -⟩ := hR
      rw [List.take_length] at ht ⊢
      have hfl := List.length_filter_le keep l
      refine AW_shrink (l.filter keep).length ?_
      rw [ht]
      have hml : ((l.filter keep).map enc).length = (l.filter keep).length := List.length_map _
      generalize l.filter keep = L at *
      have hLI : (L.length : Int) ≤ l.length := by omega
      have hLc : (L.length : Int) ≤ cap := by omega
      have hH2 := upd_same H nb (.r 61 4 cap (L.map enc))
      clear hf hst
      repeat' (first
    | refine AW_seq_kn fun K hK => ?_
    | refine AW_block ?_
    | (refine does_clear rfl rfl hH2 hE24 hZ33 rfl (by decide) (by omega) (by omega) ?_; (try simp only [push_cast, seval, *]))
    | ((first
      | refine AW_region E0 ?_ | refine AW_ret ?_ | refine AW_exit ?_ | refine AW_skip ?_ | unfold retQ); try simp only [push_cast, seval, *])
    | (apply AW_cond; (case hc => (simp only [push_cast, seval]; rfl)); all_goals (intro hc; first | (exfalso; simp only [push_cast, seval, *] at hc; done) | (exact absurd hc (by decide)) | ((try first | rw [Bool.not_true] at hc | rw [Bool.not_false] at hc); first | (with_reducible replace hc := tTT hc); clear hc | (with_reducible replace hc := tFF hc); clear hc | (have hp := hc; try simp only [decide_eq_true_eq, decide_eq_false_iff_not, bA, bB, bC, bD, bE, bF, bG, bH] at hp))))
    | (refine Kn.go hK ?_; clear hK K)
    | refine Kn.go (by assumption) ?_
    | (intro n hn; (try simp only [upd_none2, join_none_iff, ite_none, ne_eq] at hn); (try simp only [push_cast, seval, *]))
    | (intro hc)
    | fail)
      exact ⟨_, _, Weak.refl _ _, rfl, rfl⟩
theorem delO_nil (gf : FuncId) (caps : List AV) (ad : Option Addr) (H : Heap) :
    ACall Try.prog 87 [.c (.slice ad 0 0), .f (.func gf) [] caps] H fun r H' => r = .c (.slice ad 0 0) ∧ H' = H := by
  have hix := idxO_nil gf caps ad H
  refine ACall_of' Try.func87 rfl (Ent_of Try.func87 (by kernel_rfl) rfl) (by simp [Try.ntmps87]) ?_; simp only [Try.ntmps87, Try.results87]
  repeat' (first
    | refine AW_seq_kn fun K hK => ?_
    | refine AW_block ?_
    | (refine does_call rfl rfl ?_; simp only [push_cast, seval, *]; refine ACall.mono hix ?_; (rintro _ _ ⟨rfl, e2⟩; have e3 := e2.symm; clear e2; subst e3); (try simp only [push_cast, seval, *]))
    | ((first
      | refine AW_region E0 ?_ | refine AW_ret ?_ | refine AW_exit ?_ | refine AW_skip ?_ | unfold retQ); try simp only [push_cast, seval, *])
    | (apply AW_cond; (case hc => (simp only [push_cast, seval]; rfl)); all_goals (intro hc; first | (exfalso; simp only [push_cast, seval, *] at hc; done) | (exact absurd hc (by decide)) | ((try first | rw [Bool.not_true] at hc | rw [Bool.not_false] at hc); first | (with_reducible replace hc := tTT hc); clear hc | (with_reducible replace hc := tFF hc); clear hc | (have hp := hc; try simp only [decide_eq_true_eq, decide_eq_false_iff_not, bA, bB, bC, bD, bE, bF, bG, bH] at hp))))
    | (refine Kn.go hK ?_; clear hK K)
    | refine Kn.go (by assumption) ?_
    | (intro n hn; (try simp only [upd_none2, join_none_iff, ite_none, ne_eq] at hn); (try simp only [push_cast, seval, *]))
    | (intro hc)
    | fail)
  exact ⟨_, _, Weak.refl _ _, rfl, rfl⟩

end Go.Proofs.Ytlbdpnlmdcajbaa
