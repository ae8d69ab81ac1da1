/- Plain law: one byte turned, two neighbours turned; a store into a slice that the call owns. Conditions: as each theorem states them. -/
import Derived.Test.YtclhhnmafmicpaaWSumJ
namespace Go.Proofs.Ytclhhnmafmicpaa
open Go.RowKit
set_option linter.unusedVariables false

theorem Own.byte {w : World} {base : Nat} {v : Value} {l : List UInt8} (h : Own EB w base v l) (k : Nat) (hk : k < l.length) :
    ∃ g cap, v = .slice (some ⟨g, 0, none⟩) l.length cap ∧ base ≤ g ∧ w.cell? ⟨g, k, none⟩ = some (.int .u8 (l[k].toNat : Int)) ∧ w.frozen? ⟨g, k, none⟩ = false ∧
      ∀ c : UInt8, Own EB (w.setCell ⟨g, k, none⟩ (.int .u8 (c.toNat : Int))) base v (l.set k c) := by
  have hc := h
  obtain ⟨h1, ⟨rfl, h2⟩ | ⟨g, cap, cur, rfl, hb, hg, hn, hm, hs, ht⟩⟩ := hc
  · omega
  · have hcell : w.cell? ⟨g, k, none⟩ = some (.int .u8 (l[k].toNat : Int)) := by
      have := World.ownsRow.cells h (g := g) rfl k (.int .u8 (l[k].toNat : Int)) (by
        have h4 := EB.flat_get l k hk 0 (by decide)
        simpa [EB, encB] using h4)
      rw [Addr.add_lit] at this
      simpa using this
    refine ⟨g, cap, rfl, hb, hcell, (blk hg).2 k, fun c => ⟨?_, .inr ⟨g, cap, cur.setIfInBounds k (.int .u8 (c.toNat : Int)), by rw [List.length_set], hb, ?_, by rw [List.length_set]; exact hn, hm, by simpa using hs, ?_⟩⟩⟩
    · rw [EB.flat_len]
    · exact blk_set hg _
    · rw [List.length_set]
      have e1 : (cur.setIfInBounds k (.int .u8 (c.toNat : Int))).toList = cur.toList.set k (.int .u8 (c.toNat : Int)) := by simp
      rw [e1, List.take_set, ht]
      have key : ∀ (l : List UInt8) (k : Nat), (l.flatMap EB.f).set k (.int .u8 (c.toNat : Int)) = (l.set k c).flatMap EB.f := by
        intro l
        induction l with
        | nil => intro k; rfl
        | cons x l ih =>
          intro k
          cases k with
          | zero => rfl
          | succ k =>
            have := ih k
            simpa [EB, encB, List.flatMap_cons] using this
      exact key l k

theorem loS_mid (p q : List UInt8) (x : UInt8) : loS (p ++ x :: q) + 1 = loS p + x.toNat + loS q := by
  have h1 := (sums_append (x :: q) p).1
  have h2 := (sums_append q [x]).1
  have h3 : loS [x] = 1 + x.toNat := by simp [loS, sums]
  have h4 : [x] ++ q = x :: q := rfl
  rw [h4] at h2
  omega

theorem sumS_lo (l : List UInt8) : sumS l % 65536 = loS l % 65521 := by unfold sumS; omega
theorem sumS_hi (l : List UInt8) : sumS l / 65536 = hiS l % 65521 := by unfold sumS; omega

/-- one byte that is another one -/
theorem sum_turned (l : List UInt8) (k : Nat) (hk : k < l.length) (y : UInt8) : sumS (l.set k y) = sumS l ↔ y = l[k] := by
  constructor
  · intro h
    have h1 := loS_mid (l.take k) (l.drop (k + 1)) y
    have h2 := loS_mid (l.take k) (l.drop (k + 1)) l[k]
    have e1 : l.take k ++ y :: l.drop (k + 1) = l.set k y := by rw [List.set_eq_take_append_cons_drop, if_pos hk]
    rw [e1] at h1
    rw [← List.drop_eq_getElem_cons hk, List.take_append_drop] at h2
    have h3 := sumS_lo (l.set k y)
    rw [h, sumS_lo] at h3
    have hy := y.toNat_lt
    have hx := l[k].toNat_lt
    apply UInt8.toNat_inj.1
    omega
  · rintro rfl
    rw [List.set_getElem_self]

theorem hiS_pair (p q : List UInt8) (x y : UInt8) : hiS (p ++ x :: y :: q) + y.toNat = hiS (p ++ y :: x :: q) + x.toNat := by
  have h1 := (sums_append (x :: y :: q) p).2
  have h2 := (sums_append (y :: x :: q) p).2
  have h3 := (sums_append q [x, y]).2
  have h4 := (sums_append q [y, x]).2
  have h5 : loS [x, y] = loS [y, x] := by simp [loS, sums]; omega
  have h6 : hiS [x, y] + y.toNat = hiS [y, x] + x.toNat := by simp [hiS, sums]; omega
  have e1 : [x, y] ++ q = x :: y :: q := rfl
  have e2 : [y, x] ++ q = y :: x :: q := rfl
  rw [e1] at h3
  rw [e2] at h4
  rw [h5] at h3
  simp only [List.length_cons] at *
  omega

theorem loS_pair (p q : List UInt8) (x y : UInt8) : loS (p ++ x :: y :: q) = loS (p ++ y :: x :: q) := by
  have h1 := loS_mid p (y :: q) x
  have h2 := loS_mid p (x :: q) y
  have h3 := loS_mid [] q x
  have h4 := loS_mid [] q y
  have h5 : loS [] = 1 := rfl
  simp only [List.nil_append] at h3 h4
  omega

/-- two neighbours the other way round -/
theorem sum_swapped (l : List UInt8) (k : Nat) (hk : k + 1 < l.length) : sumS ((l.set k l[k + 1]).set (k + 1) (l[k]'(by omega))) = sumS l ↔ l[k]'(by omega) = l[k + 1] := by
  have hd : l = l.take k ++ (l[k]'(by omega)) :: l[k + 1] :: l.drop (k + 2) := by
    rw [← List.drop_eq_getElem_cons hk, ← List.drop_eq_getElem_cons (by omega), List.take_append_drop]
  have hs : (l.set k l[k + 1]).set (k + 1) (l[k]'(by omega)) = l.take k ++ l[k + 1] :: (l[k]'(by omega)) :: l.drop (k + 2) := by
    generalize l[k + 1] = y at *
    generalize l[k]'(by omega) = x at *
    have hlen : (l.take k).length = k := by rw [List.length_take]; omega
    generalize l.take k = p at *
    generalize l.drop (k + 2) = q at *
    subst hd
    rw [List.set_append_right _ _ (by omega), hlen, List.set_append_right _ _ (by omega), hlen]
    simp
  rw [hs]
  have h1 := hiS_pair (l.take k) (l.drop (k + 2)) (l[k]'(by omega)) l[k + 1]
  have h2 := loS_pair (l.take k) (l.drop (k + 2)) (l[k]'(by omega)) l[k + 1]
  rw [← hd] at h1 h2
  generalize l.take k ++ l[k + 1] :: (l[k]'(by omega)) :: l.drop (k + 2) = m at *
  have hy := l[k + 1].toNat_lt
  have hx := (l[k]'(by omega)).toNat_lt
  constructor
  · intro h
    have h3 := sumS_hi m
    rw [h, sumS_hi] at h3
    apply UInt8.toNat_inj.1
    omega
  · intro h
    rw [h] at h1
    unfold sumS
    rw [h2, show hiS m = hiS l by omega]
end Go.Proofs.Ytclhhnmafmicpaa
