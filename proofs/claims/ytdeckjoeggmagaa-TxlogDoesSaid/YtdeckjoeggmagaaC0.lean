/- Walks: how many records a log has; names met once. -/
import Derived.Test.YtdeckjoeggmagaaB
import Derived.Test.YtdeckjoeggmagaaMK
namespace Go.Proofs.Ytdeckjoeggmagaa
open Go.RowKit
open Nat renaming reduceEqDiff → nA, reduceLT → nB, reduceLeDiff → nC, reduceAdd → nD, reduceMul → nE, reduceSub → nF, reduceBEq → nG
open Int renaming reduceToNat → iA, reduceLT → iB, reduceLE → iC, reduceEq → iD
open Bool renaming and_eq_true → bA, or_eq_true → bB, or_eq_false_iff → bC, and_eq_false_iff → bD, not_eq_true' → bE, not_eq_false' → bF, not_true → bG, not_false → bH
set_option linter.all false
set_option maxHeartbeats 4000000
attribute [local irreducible] AW Does ACall tE tS tB tZ
set_option maxRecDepth 5000

def putN (x : Nm) (lo : List (ME Nm)) (ck : Nat) : List (ME Nm) := mput x (.bool true) (.c (.bool true)) ck lo
theorem once_a (x : Nm) (ns : List Nm) (B : Bool) (hB : (nmOk x && !decide (x ∈ ns)) = B) (lo : List (ME Nm)) (ck : Nat) (hs : SetN ns lo) (H : Heap) (m3 mb : Nat) (h3 : H m3 = some (.r 109 1 1 [[.c (.map (some mb))]])) (hb : H mb = some (bm kN lo ck M0)) :
    ACall Try.prog 85 [.g (Nm.av x), .p m3 1 0 0] H fun r H' => r = .c (.bool B) ∧ H' = upd H mb (bm kN (putN x lo ck) (mclk x lo ck) M0) := by
  have hck := CheckName_p x
  have hmw := hs.mw
  have hlk := hs.v x
  obtain ⟨s, a, m⟩ := x
  simp only [Nm.av] at hck ⊢
  unfold putN
  have hIs : IsK (.g [.c (.int .i64 s), .c (.int .i64 a), .c (.int .i64 m)]) (kN ⟨s, a, m⟩) := IsK.g (u3 ⟨s, a, m⟩)
  have n3b : ¬ m3 = mb := by rintro rfl; rw [h3] at hb; cases hb
  have nb3 : ¬ mb = m3 := fun e => n3b e.symm
  replace hmw := Lib.hid hmw
  replace hlk := Lib.hid hlk
  replace hIs := Lib.hid hIs
  have hEU := tU109
  have o3 := ne_old h3
  have ob := ne_old hb
  clear hs
  cases hok : nmOk ⟨s, a, m⟩
  · rw [hok] at hB hck
    simp only [Bool.false_and, Bool.false_eq_true, if_false] at hB hck
    subst hB
    refine ACall_of' Try.func85 rfl (Ent_of Try.func85 (by kernel_rfl) rfl) (by simp [Try.ntmps85]) ?_; simp only [Try.ntmps85, Try.results85]
    repeat' (first
    | refine AW_seq_kn fun K hK => ?_
    | refine AW_block ?_
    | (refine does_call rfl rfl ?_; simp only [push_cast, seval, *]; refine ACall.monoP (hck _) ?_; (try simp only [push_cast, seval, *]))
    | (refine does_mapUpdateC (n := mb) (enc := kN) (l := lo) (c := ck) (M := M0) (k := ⟨s, a, m⟩) (v := .bool true) kkN (.inl rfl) (by simp only [push_cast, seval, *]) (by simp only [push_cast, seval, *]) hEU (by simp only [push_cast, seval, *]; exact unhid hIs) (by simp only [push_cast, seval, *]; exact IsK.c _) ?_; (try simp only [push_cast, seval, *]))
    | ((first
      | refine AW_region E0 ?_ | refine AW_ret ?_ | refine AW_exit ?_ | refine AW_skip ?_ | unfold retQ); try simp only [push_cast, seval, *])
    | ((first | (apply AW_cond; (case hc => (simp only [push_cast, seval]; rfl))) | (apply ER_guard; (case hb => (simp only [push_cast, seval]; rfl)))); all_goals ((intro hc; first | (exfalso; simp only [push_cast, seval, *] at hc; done) | (exact absurd hc (by decide)) | ((try first | rw [Bool.not_true] at hc | rw [Bool.not_false] at hc); first | (with_reducible replace hc := tTT hc); clear hc | (with_reducible replace hc := tFF hc); clear hc | (have hp := hc; try simp only [decide_eq_true_eq, decide_eq_false_iff_not, bA, bB, bC, bD, bE, bF, bG, bH] at hp))) <;> try simp only [push_cast, seval, *]))
    | (refine Kn.go hK ?_; clear hK K)
    | refine Kn.go (by assumption) ?_
    | (intro n hn; (try simp only [upd_none2, join_none_iff, ite_none, ne_eq] at hn); (try simp only [push_cast, seval, *]))
    | (intro hc)
    | (apply ER_blk; (case hp => rfl); (case hb => (simp only [push_cast, seval]; rfl)); (case hd => (simp only [push_cast, seval]; done)); (case h => (intro hc; simp only [push_cast, seval, *]; rfl)); simp only [push_cast, seval, *])
    | fail)
    refine ⟨_, _, Weak.less (H' := upd H mb (bm kN (mput ⟨s, a, m⟩ (.bool true) (.c (.bool true)) ck lo) (mclk ⟨s, a, m⟩ lo ck) M0)) ?_, rfl, rfl⟩
    (repeat' (first | exact Heap.le_refl _ | refine hle_upd2 ?_ _ _ | (refine Heap.le_new ?_ ?_; rotate_left 1; focus (first | assumption | (simp only [upd_none2, upd_get, ne_eq, push_cast, seval, *]; done) | (simp [upd_get, *]; done)))))
  rw [hok] at hB hck
  simp only [Bool.true_and, if_true] at hB hck
  have hlk2 := unhid hlk
  have hd : decide ((⟨s, a, m⟩ : Nm) ∈ ns) = !B := by rw [← hB, Bool.not_not]
  rw [hd] at hlk2
  clear hd hB hlk
  replace hlk2 := Lib.hid hlk2
  cases B
  all_goals
    refine ACall_of' Try.func85 rfl (Ent_of Try.func85 (by kernel_rfl) rfl) (by simp [Try.ntmps85]) ?_; simp only [Try.ntmps85, Try.results85]
    repeat' (first
    | refine AW_seq_kn fun K hK => ?_
    | refine AW_block ?_
    | (refine does_call rfl rfl ?_; simp only [push_cast, seval, *]; refine ACall.monoP (hck _) ?_; (try simp only [push_cast, seval, *]))
    | (refine does_lookupV (enc := kN) (n := mb) (l := lo) (c := ck) (M := M0) (k := ⟨s, a, m⟩) (z := .bool false) (zA := .c (.bool false)) kkN rfl (by simp only [push_cast, seval, *]) (by simp only [push_cast, seval, *]) (unhid hmw) hEU zero_bool (fun _ => .c _) (by simp only [push_cast, seval, *]; exact unhid hIs) (unhid hlk2) ?_; (try simp only [push_cast, seval, *]))
    | (refine does_mapUpdateC (n := mb) (enc := kN) (l := lo) (c := ck) (M := M0) (k := ⟨s, a, m⟩) (v := .bool true) kkN (.inl rfl) (by simp only [push_cast, seval, *]) (by simp only [push_cast, seval, *]) hEU (by simp only [push_cast, seval, *]; exact unhid hIs) (by simp only [push_cast, seval, *]; exact IsK.c _) ?_; (try simp only [push_cast, seval, *]))
    | ((first
      | refine AW_region E0 ?_ | refine AW_ret ?_ | refine AW_exit ?_ | refine AW_skip ?_ | unfold retQ); try simp only [push_cast, seval, *])
    | ((first | (apply AW_cond; (case hc => (simp only [push_cast, seval]; rfl))) | (apply ER_guard; (case hb => (simp only [push_cast, seval]; rfl)))); all_goals ((intro hc; first | (exfalso; simp only [push_cast, seval, *] at hc; done) | (exact absurd hc (by decide)) | ((try first | rw [Bool.not_true] at hc | rw [Bool.not_false] at hc); first | (with_reducible replace hc := tTT hc); clear hc | (with_reducible replace hc := tFF hc); clear hc | (have hp := hc; try simp only [decide_eq_true_eq, decide_eq_false_iff_not, bA, bB, bC, bD, bE, bF, bG, bH] at hp))) <;> try simp only [push_cast, seval, *]))
    | (refine Kn.go hK ?_; clear hK K)
    | refine Kn.go (by assumption) ?_
    | (intro n hn; (try simp only [upd_none2, join_none_iff, ite_none, ne_eq] at hn); (try simp only [push_cast, seval, *]))
    | (intro hc)
    | (apply ER_blk; (case hp => rfl); (case hb => (simp only [push_cast, seval]; rfl)); (case hd => (simp only [push_cast, seval]; done)); (case h => (intro hc; simp only [push_cast, seval, *]; rfl)); simp only [push_cast, seval, *])
    | fail)
    refine ⟨_, _, Weak.less (H' := upd H mb (bm kN (mput ⟨s, a, m⟩ (.bool true) (.c (.bool true)) ck lo) (mclk ⟨s, a, m⟩ lo ck) M0)) ?_, rfl, rfl⟩
    (repeat' (first | exact Heap.le_refl _ | refine hle_upd2 ?_ _ _ | (refine Heap.le_new ?_ ?_; rotate_left 1; focus (first | assumption | (simp only [upd_none2, upd_get, ne_eq, push_cast, seval, *]; done) | (simp [upd_get, *]; done)))))
def sumT : List Tx → Nat
  | [] => 0
  | t :: l => t.rs.length + sumT l
def sizeS (l : Lg) : Nat := l.log.length + sumT l.txs
theorem sumT_app : ∀ a b : List Tx, sumT (a ++ b) = sumT a + sumT b
  | [], b => by simp [sumT]
  | t :: a, b => by simp only [List.cons_append, sumT, sumT_app a b]; omega
theorem size_p (l : Lg) (hs : sizeS l ≤ 4611686018427387904) (ht : l.txs.length ≤ maxLen) : Pure Try.prog 83 [.g (Lg.av l)] (.c (.int .i64 (sizeS l : Nat))) := by
  intro H
  unfold maxLen at ht
  obtain ⟨S, hS⟩ : ∃ S, S = sizeS l := ⟨_, rfl⟩
  rw [← hS] at hs ⊢
  unfold sizeS at hS
  obtain ⟨txs, done, log⟩ := l
  simp only at hS ht
  have hav : Lg.av ⟨txs, done, log⟩ = [.l 5 (txs.map Tx.av), .l 3 (done.map Nm.av), .l 3 (log.map Rec.av)] := rfl
  rw [hav]
  clear hav
  have hlI : (log.length : Int) ≤ 4611686018427387904 := by omega
  replace hS := Lib.hid hS
  refine ACall_of' Try.func83 rfl (Ent_of Try.func83 (by kernel_rfl) rfl) (by simp [Try.ntmps83]) ?_; simp only [Try.ntmps83, Try.results83]
  repeat' (first
    | refine AW_seq_kn fun K hK => ?_
    | refine AW_block ?_
    | ((first
      | refine AW_region E0 ?_ | refine AW_ret ?_ | refine AW_exit ?_ | refine AW_skip ?_ | unfold retQ); try simp only [push_cast, seval, *])
    | (apply AW_cond; (case hc => (simp only [push_cast, seval]; rfl)); all_goals (intro hc; first | (exfalso; simp only [push_cast, seval, *] at hc; done) | (exact absurd hc (by decide)) | ((try first | rw [Bool.not_true] at hc | rw [Bool.not_false] at hc); first | (with_reducible replace hc := tTT hc); clear hc | (with_reducible replace hc := tFF hc); clear hc | (have hp := hc; try simp only [decide_eq_true_eq, decide_eq_false_iff_not, bA, bB, bC, bD, bE, bF, bG, bH] at hp))))
    | (refine Kn.go hK ?_; clear hK K)
    | refine Kn.go (by assumption) ?_
    | (intro n hn; (try simp only [upd_none2, join_none_iff, ite_none, ne_eq] at hn); (try simp only [push_cast, seval, *]))
    | (intro hc)
    | fail)
  refine AW_loopX (σ := Nat) txs.length (fun k s => s + sumT (txs.drop k) = S) (fun k s => [(3, .c (.int .i64 s)), (10, .l 5 (txs.map Tx.av)), (11, ci txs.length), (12, ci k)]) (fun _ _ => upd H n (.r 47 3 1 [[.l 5 (txs.map Tx.av), .l 3 (done.map Nm.av), .l 3 (log.map Rec.av)]])) log.length (by rw [List.drop_zero]; exact (unhid hS).symm) ?_ ?_ ?_ ?_
  · (first | trivial | (simp only [push_cast, seval, *]; done))
  · exact Heap.le_refl _
  · rintro k s hk hinv
    have hx := List.getElem?_eq_getElem (l := txs) hk; generalize txs[k] = x at hx; have hxm := List.mem_of_getElem? hx; have hkl : (k : Int) < txs.length := (by omega); have hkw : IntKind.i64.wrap ((k : Int) + 1) = (k : Int) + 1 := wrap_i64 (by omega) (by omega)
    rw [drop_get hx] at hinv
    simp only [sumT] at hinv
    obtain ⟨⟨a1, a2, a3⟩, st, rs⟩ := x
    have hav : Tx.av ⟨⟨a1, a2, a3⟩, st, rs⟩ = [.c (.int .i64 a1), .c (.int .i64 a2), .c (.int .i64 a3), .c (.int .i64 st), .l 3 (rs.map Rec.av)] := rfl
    simp only at hinv
    have hw : IntKind.i64.wrap ((s : Int) + rs.length) = ((s + rs.length : Nat) : Int) := by rw [wrap_i64 (by omega) (by omega)]; omega
    have hinv2 : s + rs.length + sumT (txs.drop (k + 1)) = S := by omega
    clear hinv hxm
    obtain ⟨q, hq⟩ : ∃ q, q = s + rs.length := ⟨_, rfl⟩
    rw [← hq] at hw hinv2
    replace hinv2 := Lib.hid hinv2
    clear hq
    repeat' (first
    | refine AW_seq_kn fun K hK => ?_
    | refine AW_block ?_
    | ((first
      | refine AW_region E0 ?_ | refine AW_ret ?_ | refine AW_exit ?_ | refine AW_skip ?_ | unfold retQ); try simp only [push_cast, seval, *])
    | (apply AW_cond; (case hc => (simp only [push_cast, seval]; rfl)); all_goals (intro hc; first | (exfalso; simp only [push_cast, seval, *] at hc; done) | (exact absurd hc (by decide)) | ((try first | rw [Bool.not_true] at hc | rw [Bool.not_false] at hc); first | (with_reducible replace hc := tTT hc); clear hc | (with_reducible replace hc := tFF hc); clear hc | (have hp := hc; try simp only [decide_eq_true_eq, decide_eq_false_iff_not, bA, bB, bC, bD, bE, bF, bG, bH] at hp))))
    | (refine Kn.go hK ?_; clear hK K)
    | refine Kn.go (by assumption) ?_
    | (intro n hn; (try simp only [upd_none2, join_none_iff, ite_none, ne_eq] at hn); (try simp only [push_cast, seval, *]))
    | (intro hc)
    | fail)
    exact ⟨q, unhid hinv2, by (first | trivial | (simp only [push_cast, seval, *]; done)), by first | trivial | (repeat' (first | exact Heap.le_refl _ | refine hle_upd2 ?_ _ _ | (refine Heap.le_new ?_ ?_; rotate_left 1; focus (first | assumption | (simp only [upd_none2, upd_get, ne_eq, push_cast, seval, *]; done) | (simp [upd_get, *]; done)))))⟩
  · rintro s hinv
    rw [List.drop_length] at hinv
    have hs2 : s = S := by simpa [sumT] using hinv
    clear hinv hS
    subst hs2
    repeat' (first
    | refine AW_seq_kn fun K hK => ?_
    | refine AW_block ?_
    | ((first
      | refine AW_region E0 ?_ | refine AW_ret ?_ | refine AW_exit ?_ | refine AW_skip ?_ | unfold retQ); try simp only [push_cast, seval, *])
    | (apply AW_cond; (case hc => (simp only [push_cast, seval]; rfl)); all_goals (intro hc; first | (exfalso; simp only [push_cast, seval, *] at hc; done) | (exact absurd hc (by decide)) | ((try first | rw [Bool.not_true] at hc | rw [Bool.not_false] at hc); first | (with_reducible replace hc := tTT hc); clear hc | (with_reducible replace hc := tFF hc); clear hc | (have hp := hc; try simp only [decide_eq_true_eq, decide_eq_false_iff_not, bA, bB, bC, bD, bE, bF, bG, bH] at hp))))
    | (refine Kn.go hK ?_; clear hK K)
    | refine Kn.go (by assumption) ?_
    | (intro n hn; (try simp only [upd_none2, join_none_iff, ite_none, ne_eq] at hn); (try simp only [push_cast, seval, *]))
    | (intro hc)
    | fail)
    exact ⟨_, _, Weak.less (by (repeat' (first | exact Heap.le_refl _ | refine hle_upd2 ?_ _ _ | (refine Heap.le_new ?_ ?_; rotate_left 1; focus (first | assumption | (simp only [upd_none2, upd_get, ne_eq, push_cast, seval, *]; done) | (simp [upd_get, *]; done)))))), rfl, rfl⟩
def aftN (p : Option Nm) (x : Nm) : Bool := match p with | none => true | some y => decide (cmpN y x < 0)
def txsOk : Option Nm → List Nm → List Tx → Bool
  | _, _, [] => true
  | p, met, x :: l => (nmOk x.nm && !decide (x.nm ∈ met)) && (decide (x.st = 1) || decide (x.st = 2)) && aftN p x.nm && !(x.rs.any fun r => !recOk r) && txsOk (some x.nm) (x.nm :: met) l
def dnOk : List Nm → List Nm → Bool
  | _, [] => true
  | met, x :: l => (nmOk x && !decide (x ∈ met)) && dnOk (x :: met) l
def lgOk (l : Lg) : Bool := (decide (l.txs.length ≤ 24) && decide (l.done.length ≤ 300) && decide (sizeS l ≤ 400) && !(l.log.any fun r => !recOk r)) && (txsOk none [] l.txs && dnOk (l.txs.map Tx.nm).reverse l.done)
def Lg.fits (l : Lg) : Prop := (l.txs.length ≤ 1000000 ∧ l.done.length ≤ 1000000 ∧ l.log.length ≤ 1000000) ∧ ∀ t ∈ l.txs, t.rs.length ≤ 1000000
theorem sumT_bd {m : Nat} : ∀ (l : List Tx), (∀ t ∈ l, t.rs.length ≤ m) → sumT l ≤ l.length * m
  | [], _ => by simp [sumT]
  | t :: l, h => by
    have h1 := h t (by simp)
    have h2 := sumT_bd l (fun x hx => h x (by simp [hx]))
    simp only [sumT, List.length_cons, Nat.add_mul]
    omega
theorem fits_size {l : Lg} (h : l.fits) : sizeS l ≤ 4611686018427387904 := by
  have h1 := sumT_bd l.txs h.2
  have h2 : l.txs.length * 1000000 ≤ 1000000 * 1000000 := Nat.mul_le_mul_right _ h.1.1
  have h3 := h.1.2.2
  unfold sizeS
  omega
theorem le_skip {A B : Heap} {n : Nat} {k : Blk} (h : Heap.le A B) (hn : A n = none) : Heap.le A (upd B n k) := fun q b hq => by
  have : q ≠ n := by rintro rfl; rw [hn] at hq; cases hq
  rw [upd_ne this]; exact h q b hq
theorem le_no {A B : Heap} (h : Heap.le A B) {n : Nat} (hn : B n = none) : A n = none := by
  cases hq : A n with
  | none => rfl
  | some b => rw [h n b hq] at hn; cases hn
theorem le_new2 {H : Heap} {n m : Nat} {a b : Blk} (h : H n = none) (k : H m = none) (_ : ¬ m = n) : Heap.le H (upd (upd H n a) m b) := fun q c hq => by
  have h1 : q ≠ n := by rintro rfl; rw [h] at hq; cases hq
  have h2 : q ≠ m := by rintro rfl; rw [k] at hq; cases hq
  rw [upd_ne h2, upd_ne h1]; exact hq
end Go.Proofs.Ytdeckjoeggmagaa
