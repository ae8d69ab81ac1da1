/- What is written no more is held for a row from here on. -/
import Derived.Test.YteoepeionomjlaaM23
namespace Go.Proofs.Yteoepeionomjlaa
open Go.RowKit
set_option linter.all false

/-- memory in which the block n is held -/
def Held (n sz : Nat) (rows : List (List AV)) (H H' : Heap) : Prop := ∀ m k', H' m = some k' → m ≠ n ∧ ∃ k, H m = some k ∧ (k' = k ∨ k' = frzB n sz rows k)
theorem Held.base {n sz : Nat} {rows : List (List AV)} {H : Heap} (h : H n = none) : Held n sz rows H H := fun m k hk => ⟨(by rintro rfl; rw [h] at hk; cases hk), k, hk, .inl rfl⟩
theorem Held.keep {n sz m : Nat} {rows : List (List AV)} {H H' : Heap} {b : Blk} (h : Held n sz rows H H') (hm : m ≠ n) : Held n sz rows (upd H m b) (upd H' m b) := fun q k hk => by
  by_cases e : q = m
  · subst e; rw [upd_same] at hk; cases hk; exact ⟨hm, b, upd_same _ _ _, .inl rfl⟩
  · rw [upd_ne e] at hk ⊢; exact h q k hk
theorem Held.turn {n sz m : Nat} {rows : List (List AV)} {H H' : Heap} {ty : TypeId} {sz' cap : Nat} {rs rs' : List (List AV)} (h : Held n sz rows H H') (hm : m ≠ n) (hr : frzR n sz rows rs = rs') : Held n sz rows (upd H m (.r ty sz' cap rs)) (upd H' m (.r ty sz' cap rs')) := fun q k hk => by
  by_cases e : q = m
  · subst e; rw [upd_same] at hk; cases hk; exact ⟨hm, _, upd_same _ _ _, .inr (by rw [← hr]; rfl)⟩
  · rw [upd_ne e] at hk ⊢; exact h q k hk
theorem Held.own {n sz : Nat} {rows : List (List AV)} {H H' : Heap} {b : Blk} (h : Held n sz rows H H') : Held n sz rows (upd H n b) H' := fun q k hk => by
  obtain ⟨h1, x, h2, h3⟩ := h q k hk
  exact ⟨h1, x, by rw [upd_ne h1]; exact h2, h3⟩
theorem Held.drop {n sz m : Nat} {rows : List (List AV)} {H H' : Heap} {b : Blk} (h : Held n sz rows H H') (hm : H m = none) : Held n sz rows (upd H m b) H' := fun q k hk => by
  obtain ⟨h1, x, h2, h3⟩ := h q k hk
  exact ⟨h1, x, by rw [upd_ne (by rintro rfl; rw [hm] at h2; cases h2)]; exact h2, h3⟩

theorem Sat.hold {F : Mem} {H H' : Heap} {w : World} (hs : Sat F H w) {n : Nat} {ty : TypeId} {sz cap : Nat} {rows : List (List AV)} (hn : H n = some (.r ty sz cap rows)) (hH : Held n sz rows H H') :
    ∃ F' : Mem, F.le F' ∧ (∀ y v, V F y v → V F' (frz n sz rows y) v) ∧ Sat F' H' w ∧ Ext F H w F' H' w := by
  obtain ⟨C, c1, c2, c3, c4, c5, c6⟩ := hs.blk n _ hn
  have hle : rows.length * sz ≤ C.size := by rw [c2]; exact Nat.mul_le_mul_right _ c3
  obtain ⟨F', hF'⟩ : ∃ F' : Mem, F' = fun b o => if b = n then (if o < rows.length * sz then C[o]? else none) else F b o := ⟨_, rfl⟩
  have hFn : ∀ o, F n o = none := fun o => by
    cases h : F n o with
    | none => rfl
    | some u => exact (hs.off n o u _ h hn).elim
  have hFF : F.le F' := fun b o u hu => by
    rw [hF']
    by_cases e : b = n
    · subst e; rw [hFn] at hu; cases hu
    · simp [e, hu]
  have hrr : ∀ i j y, at2 rows i j = some y → y.one = true ∧ V F' y (C.getD (i * sz + j) undef) ∧ F' n (i * sz + j) = some (C.getD (i * sz + j) undef) := fun i j y hy => by
    refine ⟨c6.one i j y hy, (c6.val i j y hy).mono hFF, ?_⟩
    obtain ⟨b1, b2⟩ := c6.at2 hy
    have hlt := flat_lt b1 b2
    have : i * sz + j < C.size := by omega
    rw [hF']; simp [hlt, this, Array.getD]
  have hfr : ∀ y v, V F y v → V F' (frz n sz rows y) v := fun y v hv => hv.frz hFF c6.len hrr
  refine ⟨F', hFF, hfr, ⟨fun b o u hu => ?_, fun b o u k hu hk => ?_, fun m k hk => ?_⟩, ⟨rfl, rfl, rfl, Nat.le_refl _, fun _ _ _ => rfl, fun m k hk => ?_, hFF, fun b o u hu => ?_⟩⟩
  · rw [hF'] at hu
    by_cases e : b = n
    · subst e
      simp only [if_true] at hu
      split at hu
      · rw [cell_of_row w b _ C ty (0, 0) c1]; exact hu
      · cases hu
    · simp only [e, if_false] at hu; exact hs.mem b o u hu
  · rw [hF'] at hu
    obtain ⟨h1, x, h2, _⟩ := hH b k hk
    simp only [h1, if_false] at hu
    exact hs.off b o u x hu h2
  · obtain ⟨h1, x, h2, h3⟩ := hH m k hk
    have hb := hs.blk m x h2
    rcases h3 with rfl | rfl
    · exact hb.mono hFF
    · cases x with
      | m o M => exact ⟨hb.1, hb.2.trans hFF⟩
      | r ty' sz' cap' rs =>
        obtain ⟨C', d1, d2, d3, d4, d5, d6⟩ := hb
        refine ⟨C', d1, d2, by rw [len_frzR]; exact d3, d4, d5, fun e he => ?_, fun i j y hy => ?_, fun i j y hy => ?_⟩
        · rw [frzR_map] at he
          obtain ⟨e', he', rfl⟩ := List.mem_map.1 he
          rw [len_frzL]; exact d6.len e' he'
        · obtain ⟨z, hz, rfl⟩ := at2_frzR hy; rw [frz_one]; exact d6.one i j z hz
        · obtain ⟨z, hz, rfl⟩ := at2_frzR hy; exact hfr _ _ (d6.val i j z hz)
  · obtain ⟨h1, x, h2, _⟩ := hH m k hk
    left; rw [h2]; simp
  · rw [hF'] at hu
    by_cases e : b = n
    · right; left; rw [e, hn]; simp
    · simp only [e, if_false] at hu; exact .inl hu

/-- these slots hold these values, or what is held for them -/
def SlF (n sz : Nat) (rows : List (List AV)) (a : Nat → AV) : List (Nat × AV) → Prop
  | [] => True
  | (s, v) :: L => (a s = v ∨ frz n sz rows (a s) = v) ∧ SlF n sz rows a L
theorem SlF.get {n sz : Nat} {rows : List (List AV)} {a : Nat → AV} : ∀ {L : List (Nat × AV)}, SlF n sz rows a L → ∀ t, frm L t = a t ∨ frm L t = frz n sz rows (a t) ∨ frm L t = .x
  | [], _, t => .inr (.inr rfl)
  | (s, v) :: L, h, t => by
    rw [frm_cons]
    split
    · rename_i e; subst e
      rcases h.1 with h1 | h1
      · exact .inl h1.symm
      · exact .inr (.inl h1.symm)
    · exact SlF.get h.2 t

section
variable {P : Program} {N : Nat} {a : Nat → AV} {H : Heap} {Q : Post}
theorem AW_hold {c : Code} (n : Nat) (L : List (Nat × AV)) {H' : Heap} {ty : TypeId} {sz cap : Nat} {rows : List (List AV)} (hn : H n = some (.r ty sz cap rows)) (ha : SlF n sz rows a L) (hH : Held n sz rows H H')
    (h : AW P N c (frm L) H' Q) : AW P N c a H Q := by
  intro Fe k hF lo F w act hr
  obtain ⟨F', h1, h2, h3, h4⟩ := hr.sat.hold hn hH
  have hnone : ∀ m, H m = none → H' m = none := fun m hm => by
    cases hk : H' m with
    | none => rfl
    | some x => obtain ⟨_, y, hy, _⟩ := hH m x hk; rw [hm] at hy; cases hy
  obtain ⟨⟨Ds, d1, d2, d3⟩, z2, z3, z4, z5, z6⟩ := hr
  have hr' : Rel F' ⟨lo, Fe.round⟩ N (frm L) H' act w := ⟨⟨Ds, d1, d2, fun D hD => ⟨(d3 D hD).1, hnone D (d3 D hD).2.1, (d3 D hD).2.2⟩⟩, z2, fun l hl => ⟨(z3 l hl).1, hnone l (z3 l hl).2⟩, z4, fun t => by
    rcases ha.get t with e | e | e
    · rw [e]; exact (z5 t).mono h1
    · rw [e]; exact h2 _ _ (z5 t)
    · rw [e]; exact .x _, h3⟩
  refine wpIn_mono (h Fe k hF lo F' w act hr') ?_
  rintro e act' w' ⟨F2, a2, H2, g1, g2, g3⟩
  exact ⟨F2, a2, H2, g1, h4.trans g2, g3⟩
end
end Go.Proofs.Yteoepeionomjlaa
