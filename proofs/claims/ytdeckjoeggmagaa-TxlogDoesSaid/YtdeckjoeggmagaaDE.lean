/- Rows of one's own whose elements are written no more. -/
import Derived.Test.YtdeckjoeggmagaaD
namespace Go.Proofs.Ytdeckjoeggmagaa
open Go.RowKit
open Nat renaming reduceEqDiff → nA, reduceLT → nB, reduceLeDiff → nC, reduceAdd → nD, reduceMul → nE, reduceSub → nF, reduceBEq → nG
open Int renaming reduceToNat → iA, reduceLT → iB, reduceLE → iC, reduceEq → iD
open Bool renaming and_eq_true → bA, or_eq_true → bB, or_eq_false_iff → bC, and_eq_false_iff → bD, not_eq_true' → bE, not_eq_false' → bF, not_true → bG, not_false → bH
set_option linter.all false
set_option maxHeartbeats 4000000
attribute [local irreducible] AW Does ACall tE tS tB tZ

section
variable {α : Type} {ty : TypeId} {sz : Nat} {enc : AV × α → List AV} {R : AV → α → HR} {x : AV} {l : List α} {H H0 : Heap}
theorem OwnSl.half (E : Enc1 enc sz) (hR : ∀ y a, Loc (R y a)) {val : α → AV} (hv : ∀ a, (val a).one = true) (hw : ∀ y a H H0, R y a H H0 → WP (fun F F' => Imp F F' y (val a)) H H0) (h : OwnSl ty sz enc R x l H H0) :
    ∃ H2, OwnL H2 x ty sz (l.map fun a => enc (val a, a)) H0 ∧ ∀ r, Weak r H r H2 := by
  obtain ⟨L, rfl, H1, h1, h2⟩ := h
  rcases h1 with ⟨⟨ad, rfl⟩, e, rfl⟩ | ⟨n, cap, rfl, hn, rfl⟩
  · have : L = [] := List.map_eq_nil_iff.1 e
    subst this
    cases h2
    exact ⟨_, .inl ⟨⟨ad, rfl⟩, rfl, rfl⟩, fun r => Weak.refl _ _⟩
  · have hle := (Loc.chain hR L).le h2
    have hm : H0 n = none := by
      cases hq : H0 n with
      | none => rfl
      | some b => have := hle n b hq; rw [del_same] at this; cases this
    refine ⟨upd H0 n (.r ty sz cap ((L.map Prod.snd).map fun a => enc (val a, a))), .inr ⟨n, cap, by simp, upd_same _ _ _, (del_upd_same hm).symm⟩, fun r F w v hvr hs => ?_⟩
    obtain ⟨F', f1, f2, f3, f4, f5⟩ := Chain.wp E hv hw h2 F w (hs.less (del_le _ _))
    refine ⟨F', f1, hvr.mono f1, ⟨f3.mem, fun b o u k hu hk => ?_, fun m k hk => ?_⟩, fun b o u hu => ?_, fun m k hk => ?_⟩
    · by_cases e : b = n
      · subst e
        rcases f4 b o u hu with g | g
        · exact hs.off b o u _ g hn
        · exact g (del_same _ _)
      · rw [upd_ne e] at hk
        exact f3.off b o u k hu hk
    · by_cases e : m = n
      · subst e
        rw [upd_same] at hk
        cases hk
        obtain ⟨C, c1, c2, c3, c4, c5, c6⟩ := hs.blk m _ hn
        have key : ∀ (i j : Nat) (y : AV), at2 ((L.map Prod.snd).map fun a => enc (val a, a)) i j = some y → ∃ x, at2 (L.map enc) i j = some x ∧ Imp F F' x y ∧ (x.one = true → y.one = true) := fun i j y hy => by
          rw [List.map_map] at hy
          obtain ⟨r', hr', hy'⟩ := at2_some.1 hy
          have hi : i < (L.map enc).length := by have := (List.getElem?_eq_some_iff.1 hr').1; simpa using this
          have hr : (L.map enc)[i]? = some (L.map enc)[i] := List.getElem?_eq_getElem hi
          have him := f2.2 i _ _ hr hr'
          have hj : j < ((L.map enc)[i]).length := by have := (List.getElem?_eq_some_iff.1 hy').1; have := him.1; omega
          have hx : ((L.map enc)[i])[j]? = some ((L.map enc)[i])[j] := List.getElem?_eq_getElem hj
          exact ⟨_, at2_some.2 ⟨_, hr, hx⟩, (him.2 j _ _ hx hy').1, (him.2 j _ _ hx hy').2⟩
        refine ⟨C, c1, c2, by simpa using c3, c4, c5, ⟨fun e he => ?_, fun i j y hy => ?_, fun i j y hy => ?_⟩⟩
        · obtain ⟨q, _, rfl⟩ := List.mem_map.1 he; exact E.elen _
        · obtain ⟨x, hx, -, h4⟩ := key i j y hy
          exact h4 (c6.one i j x hx)
        · obtain ⟨x, hx, h3, -⟩ := key i j y hy
          exact h3 _ (c6.val i j x hx)
      · rw [upd_ne e] at hk
        exact f3.blk m k hk
    · rcases f4 b o u hu with g | g
      · exact .inl g
      · right
        intro e
        apply g
        simp only [del]; split <;> simp [e]
    · by_cases e : m = n
      · subst e; rw [hn]; simp
      · rw [upd_ne e] at hk
        have := del_le _ _ m k (hle m k hk)
        rw [this]; simp
end
/-- the log's three rows, the records of transactions written no more -/
def OwnF (x1 x2 x3 : AV) (l : Lg) : HR := cmp2 (fun H H0 => OwnL H x1 86 5 (l.txs.map Tx.av) H0) (cmp2 (fun H H0 => OwnL H x2 26 3 (l.done.map Nm.av) H0) (fun H H0 => OwnL H x3 36 3 (l.log.map Rec.av) H0))
theorem OwnF_loc (x1 x2 x3 : AV) (l : Lg) : Loc (OwnF x1 x2 x3 l) := (Loc.own _ _ _ _).comp ((Loc.own _ _ _ _).comp (Loc.own _ _ _ _))
theorem OwnG.half {x1 x2 x3 : AV} {l : Lg} {H H0 : Heap} (h : OwnG x1 x2 x3 l H H0) : ∃ H2, OwnF x1 x2 x3 l H2 H0 ∧ ∀ r, Weak r H r H2 := by
  obtain ⟨H1, h1, h2⟩ := h
  obtain ⟨H2, g1, g2⟩ := OwnSl.half (val := valX) EncX RX_loc (fun _ => rfl) (fun y a H H0 h => (OwnL.wp h).mono fun F F' _ g => g.1) h1
  exact ⟨H2, ⟨H1, g1, h2⟩, g2⟩
theorem OwnF_wp {x1 x2 x3 : AV} {l : Lg} {H H0 : Heap} (h : OwnF x1 x2 x3 l H H0) : WP (fun F F' => Imp F F' (gl x1 x2 x3) (.g l.av)) H H0 := by
  obtain ⟨H1, h1, H2, h2, h3⟩ := h
  refine (((OwnL.wp h1).seq ((OwnL.wp h2).seq (OwnL.wp h3)))).mono fun F F' hF ⟨F1, f1, f2, hi, F2, f3, f4, hj, hk⟩ => ?_
  exact Imp.g (Imps.cons (hi.1.up f2) (fun _ => rfl) (Imps.cons ((hj.1.up f4).down f1) (fun _ => rfl) (Imps.cons ((hk.1.down f3).down f1) (fun _ => rfl) Imps.nil)))
theorem OwnF_cs {x1 x2 x3 : AV} {l : Lg} {H H0 : Heap} (h : OwnF x1 x2 x3 l H H0) : (x1.cs = some [x1] ∧ x2.cs = some [x2] ∧ x3.cs = some [x3]) ∧ x1.one = true ∧ x2.one = true ∧ x3.one = true := by
  obtain ⟨H1, h1, H2, h2, h3⟩ := h
  exact ⟨⟨h1.cs, h2.cs, h3.cs⟩, h1.one, h2.one, h3.one⟩
theorem le_turnB {G : Heap} {n m : Nat} {a b c : Blk} (hne : m ≠ n) (hm : G m = none) : Heap.le (upd G n c) (upd (upd (upd G n a) m b) n c) := fun p x hp => by
  by_cases e : p = n
  · subst e; rw [upd_same] at hp ⊢; exact hp
  · rw [upd_ne e] at hp ⊢
    have e2 : p ≠ m := fun h => by rw [h, hm] at hp; cases hp
    rw [upd_ne e2, upd_ne e]; exact hp
end Go.Proofs.Ytdeckjoeggmagaa
