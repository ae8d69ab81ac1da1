/- Walks: transactions are committed, the closure. -/
import Derived.Test.YtdeckjoeggmagaaK
import Derived.Test.YtdeckjoeggmagaaIN2
namespace Go.Proofs.Ytdeckjoeggmagaa
open Go.RowKit
open Nat renaming reduceEqDiff → nA, reduceLT → nB, reduceLeDiff → nC, reduceAdd → nD, reduceMul → nE, reduceSub → nF, reduceBEq → nG
open Int renaming reduceToNat → iA, reduceLT → iB, reduceLE → iC, reduceEq → iD
open Bool renaming and_eq_true → bA, or_eq_true → bB, or_eq_false_iff → bC, and_eq_false_iff → bD, not_eq_true' → bE, not_eq_false' → bF, not_true → bG, not_false → bH
set_option linter.all false
set_option maxHeartbeats 4000000
attribute [local irreducible] AW Does ACall tE tS tB tZ
set_option maxRecDepth 5000

def riseN : Option Nm → List Nm → Bool
  | _, [] => true
  | p, x :: l => aftN p x && riseN (some x) l
def firstE (l : Lg) (names : List Nm) : List Nm → Int
  | [] => 0
  | v :: vs => if v ∈ l.done then firstE l names vs else if stopsE l.txs v names = 0 then firstE l names vs else stopsE l.txs v names
def com1 (l : Lg) (v : Nm) : Lg := if atB l.txs v = true then ⟨l.txs.take (atI l.txs v) ++ l.txs.drop (atI l.txs v + 1), l.done ++ [v], l.log ++ (txAt l.txs v).rs⟩ else l
def commitL (l : Lg) (names : List Nm) : Lg := names.foldl com1 l
def commitE (l : Lg) (names : List Nm) : Int := if riseN none names = false then 2 else if ¬ firstE l names names = 0 then firstE l names names else if 300 < (commitL l names).done.length then 6 else 0
theorem SetN.cg {s s' : List Nm} {l : List (ME Nm)} (h : SetN s l) (e : ∀ n, n ∈ s ↔ n ∈ s') : SetN s' l := ⟨fun n => (h.mem n).trans (e n), h.y, h.mw⟩
theorem SetN.snoc {s : List Nm} {l : List (ME Nm)} (h : SetN s l) (n : Nm) (c : Nat) : SetN (s ++ [n]) (putN n l c) := (h.put n c).cg fun m => by simp [or_comm]
theorem Opened_of {x : AV} {a : List Tx} {H H0 : Heap} (h : OwnX x a H H0) : Opened x a H := fun i t hi => by
  obtain ⟨np, cap, L, y, A0, e1, e2, -, e3, -, -, -⟩ := OwnX_open h hi
  exact ⟨np, cap, L, e1, by rw [e2, upd_same], e3⟩
theorem Opened.mono {x : AV} {a : List Tx} {H H' : Heap} (h : Opened x a H) (hl : Heap.le H H') : Opened x a H' := fun i t hi => by
  obtain ⟨np, cap, L, e1, e2, e3⟩ := h i t hi
  exact ⟨np, cap, L, e1, hl _ _ e2, e3⟩
theorem OwnL_open {x : AV} {α : Type} {f : α → List AV} {l : List α} {H H0 : Heap} {ty : TypeId} {sz : Nat} (h : OwnL H x ty sz (l.map f) H0) {k : Nat} {v : α} (hk : l[k]? = some v) : ∃ (m cap : Nat), x = .s m sz 0 l.length cap ∧ H m = some (.r ty sz cap (l.map f)) := by
  rcases h.split with ⟨ad, -, e, -⟩ | ⟨m, cap, rfl, rfl, -⟩
  · rw [List.map_eq_nil_iff.1 e] at hk; simp at hk
  · exact ⟨m, cap, by rw [List.length_map], upd_same _ _ _⟩
/-- what stays while transactions are committed one by one -/
structure Inv16 (l : Lg) : Prop where
  rise : RiseT l.txs
  len : l.done.length + l.txs.length ≤ 324
  size : sizeS l ≤ 400
theorem Inv16.of {l : Lg} (h : lgOk l = true) : Inv16 l := ⟨lgOk_rise h, by have := lgOk_bd h; omega, (lgOk_bd h).2.2.2.1⟩
theorem take_drop1 {α : Type} {l : List α} {i : Nat} {x : α} (h : l[i]? = some x) : l = l.take i ++ x :: l.drop (i + 1) := by
  rw [← drop_get h, List.take_append_drop]
theorem Inv16.com {l : Lg} (h : Inv16 l) (v : Nm) : Inv16 (com1 l v) := by
  unfold com1
  split
  · rename_i hb
    obtain ⟨x, hx, -⟩ := at_true hb
    have hs := take_drop1 hx
    have hT : txAt l.txs v = x := by unfold txAt; rw [hx]; rfl
    rw [hT]
    obtain ⟨h1, h2, h3⟩ := h
    generalize atI l.txs v = i at *
    obtain ⟨a, b, c⟩ := l
    simp only at hs hx h1 h2 h3 ⊢
    refine ⟨?_, ?_, ?_⟩
    · unfold RiseT at h1 ⊢
      rw [hs] at h1
      rw [List.pairwise_append] at h1 ⊢
      refine ⟨h1.1, (List.pairwise_cons.1 h1.2.1).2, fun p hp q hq => h1.2.2 p hp q (by simp [hq])⟩
    · have := congrArg List.length hs
      simp only [List.length_append, List.length_cons, List.length_nil] at this ⊢
      omega
    · unfold sizeS at h3 ⊢
      simp only at h3 ⊢
      rw [hs] at h3
      simp only [sumT_app, sumT, List.length_append] at h3 ⊢
      omega
  · exact h
end Go.Proofs.Ytdeckjoeggmagaa
