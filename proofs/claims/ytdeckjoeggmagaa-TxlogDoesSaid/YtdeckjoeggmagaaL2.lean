/- A log of one's own, taken apart and put together. -/
import Derived.Test.YtdeckjoeggmagaaL
namespace Go.Proofs.Ytdeckjoeggmagaa
open Go.RowKit
open Nat renaming reduceEqDiff → nA, reduceLT → nB, reduceLeDiff → nC, reduceAdd → nD, reduceMul → nE, reduceSub → nF, reduceBEq → nG
open Int renaming reduceToNat → iA, reduceLT → iB, reduceLE → iC, reduceEq → iD
open Bool renaming and_eq_true → bA, or_eq_true → bB, or_eq_false_iff → bC, and_eq_false_iff → bD, not_eq_true' → bE, not_eq_false' → bF, not_true → bG, not_false → bH
set_option linter.all false
set_option maxHeartbeats 4000000
attribute [local irreducible] AW Does ACall tE tS tB tZ

theorem OwnG_open {y1 y2 y3 : AV} {l : Lg} {H base : Heap} (h : OwnG y1 y2 y3 l H base) {i : Nat} {t : Tx} (hi : l.txs[i]? = some t) :
    ∃ (np cap : Nat) (L : List (AV × Tx)) (y : AV) (Q1 Q2 Q3 : Heap), y1 = .s np 5 0 l.txs.length cap ∧ OwnL H y3 36 3 (l.log.map Rec.av) Q1 ∧ OwnL Q1 y2 26 3 (l.done.map Nm.av) Q2 ∧ OwnL Q2 y1 86 5 (L.map encX) Q3 ∧
      H np = some (.r 86 5 cap (L.map encX)) ∧ L.map Prod.snd = l.txs ∧ L[i]? = some (y, t) ∧ (L.map encX)[i]? = some (encX (y, t)) ∧ Chain RX L Q3 base ∧ Lent H y (.l 3 (t.rs.map Rec.av)) := by
  obtain ⟨P1, h1, P2, h2, h3⟩ := h
  obtain ⟨R1, a1, a2⟩ := (Loc.own _ _ _ _).swap (Loc.own _ _ _ _) h2 h3
  obtain ⟨Q1, b1, b2⟩ := (OwnX_loc _ _).swap (Loc.own _ _ _ _) h1 a1
  obtain ⟨Q2, c1, c2⟩ := (OwnX_loc _ _).swap (Loc.own _ _ _ _) b2 a2
  have hop := c2
  obtain ⟨np, cap, L, y, Q3, e1, e2, e3, e4, e5, e6, e7⟩ := OwnX_open c2 hi
  have hrl : (L.map encX).length = l.txs.length := by rw [← e4]; simp
  have o1 : OwnL Q2 y1 86 5 (L.map encX) Q3 := by rw [e1, e2]; exact OwnL.at hrl.symm e3
  have hnp : H np = some (.r 86 5 cap (L.map encX)) := (Loc.own _ _ _ _).get b1 ((Loc.own _ _ _ _).get c1 (by rw [e2, upd_same]))
  obtain ⟨B0, p1, p2⟩ := Chain.pick RX_loc e7 e5
  refine ⟨np, cap, L, y, Q1, Q2, Q3, e1, b1, c1, o1, hnp, e4, e5, e6, e7, ?_⟩
  have l0 := (OwnL.lent p1).mono ((Loc.own _ _ _ _).le o1)
  exact (l0.mono ((Loc.own _ _ _ _).le c1)).mono ((Loc.own _ _ _ _).le b1)
theorem OwnG_shut {r z2 z : AV} {L : List (AV × Tx)} {dn : List Nm} {lg : List Rec} {H T2 T1 Q3 base K : Heap} {i : Nat} {y : AV} {t : Tx} (h1 : OwnL H r 86 5 ((L.eraseIdx i).map encX) T2) (h2 : OwnL T2 z2 26 3 (dn.map Nm.av) T1) (h3 : OwnL T1 z 36 3 (lg.map Rec.av) Q3) (h4 : Chain RX L Q3 base) (hi : L[i]? = some (y, t)) (hk : Heap.le K base) :
    ∃ H4, Heap.le H4 H ∧ OwnG r z2 z ⟨(L.eraseIdx i).map Prod.snd, dn, lg⟩ H4 K := by
  obtain ⟨B0, p1, p2⟩ := Chain.pick RX_loc h4 hi
  obtain ⟨H4, q1, W1, q2, W2, q3, q4⟩ := ((Loc.own r 86 5 ((L.eraseIdx i).map encX)).comp ((Loc.own z2 26 3 (dn.map Nm.av)).comp (Loc.own z 36 3 (lg.map Rec.av)))).cut ⟨_, h1, _, h2, h3⟩ ((RX_loc _ _).le p1)
  obtain ⟨W3, a1, a2⟩ := (Loc.own _ _ _ _).swap (Loc.chain RX_loc _) q4 p2
  obtain ⟨W4, b1, b2⟩ := (Loc.own _ _ _ _).swap (Loc.chain RX_loc _) q3 a1
  have hG : OwnG r z2 z ⟨(L.eraseIdx i).map Prod.snd, dn, lg⟩ H4 base := ⟨W4, ⟨L.eraseIdx i, rfl, W1, q2, b1⟩, W3, b2, a2⟩
  obtain ⟨H5, c1, c2⟩ := (OwnG_loc _ _ _ _).cut hG hk
  exact ⟨H5, Heap.le_trans c1 q1, c2⟩
theorem erase_rows {L : List (AV × Tx)} {i : Nat} : (L.map encX).take i ++ (L.map encX).drop (i + 1) = (L.eraseIdx i).map encX := by
  rw [List.eraseIdx_eq_take_drop_succ, List.map_append, List.map_take, List.map_drop]
theorem erase_snd {L : List (AV × Tx)} {a : List Tx} {i : Nat} (h : L.map Prod.snd = a) : (L.eraseIdx i).map Prod.snd = a.take i ++ a.drop (i + 1) := by
  rw [List.eraseIdx_eq_take_drop_succ, List.map_append, List.map_take, List.map_drop, h]
end Go.Proofs.Ytdeckjoeggmagaa
