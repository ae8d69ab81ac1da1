/- Walks: with, where the closure writes two cells. -/
import Derived.Test.YtmkncbddjnaklaaTN0
import Derived.Test.YtmkncbddjnaklaaTE
namespace Go.Proofs.Ytmkncbddjnaklaa
open Go.RowKit
open Nat renaming reduceEqDiff → nA, reduceLT → nB, reduceLeDiff → nC, reduceAdd → nD, reduceMul → nE, reduceSub → nF, reduceBEq → nG
open Int renaming reduceToNat → iA, reduceLT → iB, reduceLE → iC, reduceEq → iD
open Bool renaming and_eq_true → bA, or_eq_true → bB, or_eq_false_iff → bC, and_eq_false_iff → bD, not_eq_true' → bE, not_eq_false' → bF, not_true → bG, not_false → bH
set_option linter.all false
set_option maxHeartbeats 4000000
attribute [local irreducible] AW Does ACall tE tS tB tZ

theorem OwnL.unjoin {K R G2 : Heap} {y : AV} {ty : TypeId} {sz : Nat} {rows : List (List AV)} (h : OwnL G2 y ty sz rows (join K R)) (ha : Apart K R) : ∃ G', G2 = join G' R ∧ Apart G' R ∧ OwnL G' y ty sz rows K := by
  rcases h.split with ⟨ad, rfl, rfl, rfl⟩ | ⟨m, cap, rfl, rfl, hm⟩
  · exact ⟨K, rfl, ha, OwnL.none'⟩
  · rw [join_none_iff] at hm
    exact ⟨upd K m (.r ty sz cap rows), (upd_join _ _ _ _), ha.upd _ hm.2, OwnL.at rfl hm.1⟩
theorem del_join {K R : Heap} {n : Nat} (h : R n = none) : del (join K R) n = join (del K n) R := by
  funext q; simp only [del, join]
  by_cases e : q = n
  · subst e; simp [h]
  · simp [e]
theorem Apart.dele {K R : Heap} (h : Apart K R) (n : Nat) : Apart (del K n) R := fun q => by
  rcases h q with g | g
  · left; simp only [del]; split
    · rfl
    · exact g
  · exact .inr g
abbrev nilS : AV := .c (.slice none 0 0)
theorem with_two (T : List KC) (hT : T.length ≤ 90000) (hok : tOk T = true) (gf : FuncId) (caps : List AV) (Hs : Heap) (no : Nat) (e : Int) (T' : List KC) (O' : List Rec) (hno : Hs no = some (bxO nilS))
    (hcall : ∀ x nb Q B, Q nb = none → Q no = none → (∀ m k, m ≠ no → Hs m = some k → Q m = some k) → TwoO Q nb no x nilS T [] B → ACall Try.prog gf ([.p nb 1 0 0] ++ caps) B fun q H' => q = .c (.int .i64 e) ∧ ∃ x' y', TwoO Q nb no x' y' T' O' H') :
    ACall Try.prog 68 [.g [.l 4 (T.map KC.av)], .f (.func gf) [] caps] Hs fun r H' => ∃ y G', r = .t [.g [y], .c (.int .i64 e)] ∧ (∃ yo, OwnL G' yo 54 3 (O'.map Rec.av) (upd (del Hs no) no (bxO yo))) ∧ ((e = 0 ∧ OwnL H' y 80 4 (T'.map KC.av) G') ∨ (¬ e = 0 ∧ y = .c (.slice none 0 0) ∧ H' = G')) := by
  refine with_g T (by omega) hok gf caps Hs e T' (fun G => G = Hs) (fun G' => ∃ yo, OwnL G' yo 54 3 (O'.map Rec.av) (upd (del Hs no) no (bxO yo))) rfl ?_
  rintro G R x B nb rfl hap hnb hown
  have hR : R no = none := hap.right hno
  have hj : join G R no = some (bxO nilS) := join_left hno
  have hne : nb ≠ no := by rintro rfl; rw [hj] at hnb; cases hnb
  have hQb : del (join G R) no nb = none := by rw [del_ne hne]; exact hnb
  have hQm : ∀ m k, m ≠ no → G m = some k → del (join G R) no m = some k := fun m k hm hk => by rw [del_ne hm]; exact join_left hk
  have htw : TwoO (del (join G R) no) nb no x nilS T [] B := ⟨join G R, by rw [show upd (del (join G R) no) no (.r 50 1 1 [[nilS]]) = join G R from upd_del_same hj]; exact OwnL.nil _ _ _, hown, hnb⟩
  refine (hcall x nb _ B hQb (del_same _ _) hQm htw).mono ?_
  rintro _ H' ⟨rfl, x', y', G2, h1, h2, h3⟩
  rw [del_join hR, upd_join] at h1
  obtain ⟨G', rfl, a1, a2⟩ := h1.unjoin ((hap.dele no).upd _ hR)
  refine ⟨rfl, ?_⟩
  by_cases he : e = 0
  · exact .inl ⟨he, x', G', ⟨y', a2⟩, a1, h3, h2⟩
  · exact .inr ⟨he, G', ⟨y', a2⟩, a1, Heap.le_trans (le_upd_new h3) h2.le⟩
end Go.Proofs.Ytmkncbddjnaklaa
