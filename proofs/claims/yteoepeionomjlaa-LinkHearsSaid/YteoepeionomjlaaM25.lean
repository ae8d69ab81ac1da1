/- A slice of its own is held for a row from here on. -/
import Derived.Test.YteoepeionomjlaaM24
namespace Go.Proofs.Yteoepeionomjlaa
open Go.RowKit
set_option linter.all false

def SlO (x y : AV) (a : Nat → AV) : List (Nat × AV) → Prop
  | [] => True
  | (s, v) :: L => (a s = v ∨ (a s = x ∧ v = y)) ∧ SlO x y a L
theorem SlO.get {x y : AV} {a : Nat → AV} : ∀ {L : List (Nat × AV)}, SlO x y a L → ∀ t, frm L t = a t ∨ (a t = x ∧ frm L t = y) ∨ frm L t = .x
  | [], _, t => .inr (.inr rfl)
  | (s, v) :: L, h, t => by
    rw [frm_cons]
    split
    · rename_i e; subst e
      rcases h.1 with h1 | h1
      · exact .inl h1.symm
      · exact .inr (.inl h1)
    · exact SlO.get h.2 t

section
variable {P : Program} {N : Nat} {a : Nat → AV} {H : Heap} {Q : Post}
theorem AW_weaken {c : Code} (L : List (Nat × AV)) (ha : ∀ F : Mem, ∀ t, Imp F F (a t) (frm L t)) (h : AW P N c (frm L) H Q) : AW P N c a H Q := fun Fe n hF B F w act hr =>
  h Fe n hF B F w act ⟨hr.dfr, hr.low, hr.rnd, hr.size, fun t => ha F t _ (hr.vf t), hr.sat⟩
theorem AW_own {c : Code} {x : AV} {ty : TypeId} {sz : Nat} {rows : List (List AV)} {H0 H' : Heap} (hown : OwnL H x ty sz rows H0) (L : List (Nat × AV)) (ha : SlO x (.l sz rows) a L) (hl : Heap.le H' H0)
    (h : AW P N c (frm L) H' Q) : AW P N c a H Q := by
  rcases hown with ⟨⟨ad, rfl⟩, rfl, rfl⟩ | ⟨n, cap, rfl, h1, rfl⟩
  · refine AW_less hl (AW_weaken L (fun F t => ?_) h)
    rcases ha.get t with e | ⟨e1, e2⟩ | e
    · rw [e]; exact Imp.refl (Mem.le.refl F) _
    · rw [e1, e2]; exact Imp.nil_l sz
    · rw [e]; exact fun v _ => .x v
  · intro Fe k hF lo F w act hr
    have hH : Held n sz rows H (del H n) := fun m k' hk => by
      by_cases e : m = n
      · rw [e, del_same] at hk; cases hk
      · rw [del_ne e] at hk; exact ⟨e, k', hk, .inl rfl⟩
    obtain ⟨F', g1, g2, g3, g4⟩ := hr.sat.hold h1 hH
    have hnone : ∀ m, H m = none → del H n m = none := fun m hm => by unfold del; split <;> simp_all
    obtain ⟨⟨Ds, d1, d2, d3⟩, z2, z3, z4, z5, z6⟩ := hr
    have hr' : Rel F' ⟨lo, Fe.round⟩ N (frm L) (del H n) act w := ⟨⟨Ds, d1, d2, fun D hD => ⟨(d3 D hD).1, hnone D (d3 D hD).2.1, (d3 D hD).2.2⟩⟩, z2, fun l hl => ⟨(z3 l hl).1, hnone l (z3 l hl).2⟩, z4, fun t => by
      rcases ha.get t with e | ⟨e1, e2⟩ | e
      · rw [e]; exact (z5 t).mono g1
      · rw [e2]
        have := g2 _ _ (z5 t)
        rw [e1, frz_s rfl] at this
        exact this
      · rw [e]; exact .x _, g3⟩
    refine wpIn_mono ((AW_less hl h) Fe k hF lo F' w act hr') ?_
    rintro e act' w' ⟨F2, a2, H2, q1, q2, q3⟩
    exact ⟨F2, a2, H2, q1, g4.trans q2, q3⟩
end
attribute [push_cast] bne_self_eq_false beq_self_eq_true Bool.false_bne Bool.true_bne Bool.bne_false Bool.bne_true Bool.true_beq Bool.false_beq
end Go.Proofs.Yteoepeionomjlaa
