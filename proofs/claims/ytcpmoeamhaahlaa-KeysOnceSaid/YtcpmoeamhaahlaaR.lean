/- The plain law: read by all owners, each record is emitted once, those of a key in order. No program in sight. -/
import Derived.Test.YtcpmoeamhaahlaaQ
namespace Go.Proofs.Ytcpmoeamhaahlaa
open Go.RowKit
set_option linter.all false
set_option maxHeartbeats 4000000
attribute [local irreducible] AW Does

/-- the records of a group, in order -/
def fl (g : Nat) (l : List Rec) : List Rec := l.filter fun r => gr r == g
def fk (key : Int) (l : List Rec) : List Rec := l.filter fun r => r.k == key
theorem fl_snoc (g : Nat) (l : List Rec) (r : Rec) : fl g (l ++ [r]) = if gr r = g then fl g l ++ [r] else fl g l := by
  unfold fl; rw [List.filter_append]
  by_cases h : gr r = g <;> simp [h]
theorem gr_lt (r : Rec) : gr r < 8 := by
  unfold gr
  have : r.k.tmod 8 < 8 := Int.tmod_lt_of_pos _ (by omega)
  omega
theorem fold_get : ∀ (l : List Rec) (t : List Int) (g : Nat), t.length = 8 → g < 8 → (l.foldl addG t).getD g 0 = t.getD g 0 + (fl g l).length
  | [], t, g, ht, hg => by simp [fl]
  | r :: l, t, g, ht, hg => by
    rw [List.foldl_cons, fold_get l (addG t r) g (by rw [addG_len, ht]) hg]
    unfold addG fl
    rw [List.filter_cons]
    by_cases h : gr r = g
    · subst h
      rw [List.getD_eq_getElem?_getD, List.getElem?_set_self (by omega)]
      simp; omega
    · rw [List.getD_eq_getElem?_getD, List.getElem?_set_ne h, ← List.getD_eq_getElem?_getD]
      simp [h]
theorem totS_get (l : List Rec) (g : Nat) (hg : g < 8) : (totS l).getD g 0 = (fl g l).length := by
  unfold totS
  rw [fold_get l _ g (by simp) hg]
  have : (List.replicate 8 (0 : Int)).getD g 0 = 0 := by
    match g, hg with
    | 0, _ | 1, _ | 2, _ | 3, _ | 4, _ | 5, _ | 6, _ | 7, _ => rfl
  rw [this, Int.zero_add]
structure Once (l : List Rec) (o : List Int) (out : List Rec) : Prop where
  len : o.length = 8
  pos : ∀ g, g < 8 → ∃ m : Nat, o.getD g 0 = m ∧ m ≤ (fl g l).length ∧ fl g out = (fl g l).take m
theorem Once.nil (l : List Rec) : Once l zeros8 [] := ⟨rfl, fun g hg => ⟨0, by
  match g, hg with
  | 0, _ | 1, _ | 2, _ | 3, _ | 4, _ | 5, _ | 6, _ | 7, _ => rfl, Nat.zero_le _, by simp [fl]⟩⟩
theorem Once.off {l : List Rec} {o : List Int} {out : List Rec} (h : Once l o out) {src : Int} (hin : inOk src l = true) : offErr src l o = 0 := by
  have : (List.range 8).any (offBad o (totS l)) = false := List.any_eq_false.2 fun g hg => by
    obtain ⟨m, h1, h2, _⟩ := h.pos g (List.mem_range.1 hg)
    simp only [offBad, h1, totS_get l g (List.mem_range.1 hg), Bool.or_eq_true, decide_eq_true_eq]
    omega
  simp [offErr, hin, this]
theorem emit_eq {l : List Rec} {o : List Int} {k : Nat} {r : Rec} : emitS o (totS (l.take k)) r = decide (((fl (gr r) (l.take k)).length : Int) + 1 ≤ o.getD (gr r) 0) := by
  unfold emitS; rw [totS_get _ _ (gr_lt r)]
/-- the place of the m-th record of a group -/
theorem nth_group (g m : Nat) (l : List Rec) : ∀ k, m < (fl g (l.take k)).length → ∃ j y, j < k ∧ l[j]? = some y ∧ gr y = g ∧ (fl g (l.take j)).length = m
  | 0, h => by simp [fl] at h
  | k + 1, h => by
    cases hx : l[k]? with
    | none =>
      have hk : l.length ≤ k := List.getElem?_eq_none_iff.1 hx
      rw [List.take_of_length_le (by omega)] at h
      obtain ⟨j, y, h1, h2⟩ := nth_group g m l k (by rw [List.take_of_length_le hk]; exact h)
      exact ⟨j, y, by omega, h2⟩
    | some y =>
      rw [take_snoc hx, fl_snoc] at h
      by_cases hg : gr y = g
      · rw [if_pos hg, List.length_append] at h
        simp at h
        by_cases hm : m < (fl g (l.take k)).length
        · obtain ⟨j, z, h1, h2⟩ := nth_group g m l k hm
          exact ⟨j, z, by omega, h2⟩
        · exact ⟨k, y, by omega, hx, hg, by omega⟩
      · rw [if_neg hg] at h
        obtain ⟨j, z, h1, h2⟩ := nth_group g m l k h
        exact ⟨j, z, by omega, h2⟩
theorem fl_at {l : List Rec} {k : Nat} {r : Rec} (h : l[k]? = some r) : (fl (gr r) l)[(fl (gr r) (l.take k)).length]? = some r := by
  obtain ⟨hk, hr⟩ := List.getElem?_eq_some_iff.1 h
  have e2 : l = l.take k ++ r :: l.drop (k + 1) := by rw [← hr, List.getElem_cons_drop, List.take_append_drop]
  have e3 : fl (gr r) l = fl (gr r) (l.take k) ++ r :: fl (gr r) (l.drop (k + 1)) := by
    have := congrArg (fl (gr r)) e2
    unfold fl at this ⊢
    rw [List.filter_append, List.filter_cons, if_pos (by simp)] at this
    exact this
  rw [e3, List.getElem?_append_right (Nat.le_refl _)]
  simp
theorem mine_gr {y r : Rec} {i w : Int} (hy : recOk y = true) (hg : gr y = gr r) (hr : mineS r i w = true) (hr0 : 0 ≤ r.k) : mineS y i w = true := by
  unfold mineS at hr ⊢
  simp only [Bool.and_eq_true, decide_eq_true_eq] at hr ⊢
  have h1 : 0 ≤ y.k.tmod 8 := Int.tmod_nonneg 8 (recOk_k hy)
  have h2 : 0 ≤ r.k.tmod 8 := Int.tmod_nonneg 8 hr0
  have h3 : y.k.tmod 8 = r.k.tmod 8 := by unfold gr at hg; omega
  exact ⟨⟨hy, hr.1.2⟩, by rw [h3]; exact hr.2⟩
theorem Once.step {l : List Rec} {o : List Int} {out : List Rec} {i w : Int} {r : Rec} (h : Once l o out) (hok : ∀ x ∈ l, recOk x = true) (hn : nextS o l i w = some r) : Once l (addG o r) (out ++ [r]) := by
  obtain ⟨k, h1, h2, h3, h4⟩ := mem_find hn
  have hr := hok r (List.mem_of_getElem? h1)
  obtain ⟨m, g1, g2, g3⟩ := h.pos (gr r) (gr_lt r)
  have hc : (fl (gr r) (l.take k)).length = m := by
    rw [emit_eq, g1] at h2
    simp only [decide_eq_false_iff_not] at h2
    by_cases hm : m < (fl (gr r) (l.take k)).length
    · exfalso
      obtain ⟨j, y, a1, a2, a3, a4⟩ := nth_group (gr r) m l k hm
      have a5 := h4 j y a1 a2
      have a6 : mineS y i w = true := mine_gr (hok y (List.mem_of_getElem? a2)) a3 h3 (recOk_k hr)
      have a7 : emitS o (totS (l.take j)) y = false := by
        rw [emit_eq, a3, g1, a4]; simp; omega
      rw [a6, a7] at a5
      cases a5
    · omega
  have hat := fl_at h1
  rw [hc] at hat
  have hml : m < (fl (gr r) l).length := (List.getElem?_eq_some_iff.1 hat).1
  refine ⟨by rw [addG_len, h.len], fun g hg => ?_⟩
  by_cases e : gr r = g
  · subst e
    refine ⟨m + 1, ?_, hml, ?_⟩
    · unfold addG
      rw [List.getD_eq_getElem?_getD, List.getElem?_set_self (by rw [h.len]; exact gr_lt r), g1]; simp
    · rw [fl_snoc, if_pos rfl, g3, take_snoc hat]
  · obtain ⟨m', q1, q2, q3⟩ := h.pos g hg
    refine ⟨m', ?_, q2, ?_⟩
    · unfold addG
      rw [List.getD_eq_getElem?_getD, List.getElem?_set_ne e, ← List.getD_eq_getElem?_getD]; exact q1
    · rw [fl_snoc, if_neg e]; exact q3
theorem fl_sum (l : List Rec) : l.length = (fl 0 l).length + (fl 1 l).length + (fl 2 l).length + (fl 3 l).length + (fl 4 l).length + (fl 5 l).length + (fl 6 l).length + (fl 7 l).length := by
  induction l with
  | nil => rfl
  | cons r l ih =>
    have hg := gr_lt r
    unfold fl at ih ⊢
    simp only [List.filter_cons, List.length_cons]
    generalize gr r = g at hg
    match g, hg with
    | 0, _ | 1, _ | 2, _ | 3, _ | 4, _ | 5, _ | 6, _ | 7, _ => simp; omega
theorem len_eq {a b : List Rec} (h : ∀ g, g < 8 → fl g a = fl g b) : a.length = b.length := by
  rw [fl_sum a, fl_sum b, h 0 (by omega), h 1 (by omega), h 2 (by omega), h 3 (by omega), h 4 (by omega), h 5 (by omega), h 6 (by omega), h 7 (by omega)]
theorem fk_fl (key : Int) (l : List Rec) : fk key l = fk key (fl (key.tmod 8).toNat l) := by
  unfold fk fl
  rw [List.filter_filter]
  refine List.filter_congr fun r _ => ?_
  by_cases h : r.k = key
  · subst h; simp [gr]
  · simp [h]
theorem fk_eq {a b : List Rec} (h : ∀ g, g < 8 → fl g a = fl g b) (key : Int) : fk key a = fk key b := by
  rw [fk_fl key a, fk_fl key b, h]
  have : key.tmod 8 < 8 := Int.tmod_lt_of_pos _ (by omega)
  omega
theorem fl_pfx {l : List Rec} {o : List Int} {g m : Nat} (ho : o.getD g 0 = m) : ∀ k, k ≤ l.length → fl g (pfx o l k) = (fl g (l.take k)).take m
  | 0, _ => by simp [pfx, fl]
  | k + 1, hk => by
    have hx := List.getElem?_eq_getElem (l := l) (show k < l.length by omega)
    generalize l[k] = r at hx
    have hp := partsS_get (o := o) hx
    rw [take_snoc hx, fl_snoc]
    have ih := fl_pfx (l := l) ho k (by omega)
    rw [emit_eq] at hp
    by_cases hg : gr r = g
    · subst hg
      rw [if_pos rfl]
      by_cases hc : ((fl (gr r) (l.take k)).length : Int) + 1 ≤ o.getD (gr r) 0
      · rw [decide_eq_true hc] at hp
        rw [ho] at hc
        have hc' : (fl (gr r) (l.take k)).length + 1 ≤ m := by omega
        rw [pfx_yes hp, fl_snoc, if_pos rfl, ih, List.take_of_length_le (l := fl (gr r) (l.take k)) (by omega), List.take_of_length_le (l := fl (gr r) (l.take k) ++ [r]) (by rw [List.length_append]; simpa using hc')]
      · rw [decide_eq_false hc] at hp
        rw [ho] at hc
        have hc' : m ≤ (fl (gr r) (l.take k)).length := by omega
        rw [pfx_no hp, ih, List.take_append_of_le_length hc']
    · rw [if_neg hg]
      by_cases hc : ((fl (gr r) (l.take k)).length : Int) + 1 ≤ o.getD (gr r) 0
      · rw [decide_eq_true hc] at hp
        rw [pfx_yes hp, fl_snoc, if_neg hg, ih]
      · rw [decide_eq_false hc] at hp
        rw [pfx_no hp, ih]
theorem Once.prefix_fl {l : List Rec} {o : List Int} {out : List Rec} (h : Once l o out) : ∀ g, g < 8 → fl g (emitted o l) = fl g out := fun g hg => by
  obtain ⟨m, h1, h2, h3⟩ := h.pos g hg
  have := fl_pfx (l := l) h1 l.length (Nat.le_refl _)
  rw [List.take_length] at this
  rw [h3, ← this]
  congr 1
  unfold emitted pfx
  rw [List.take_of_length_le (by rw [partsS_len]; omega)]
/-- nobody has anything to read: all is emitted -/
theorem Once.done {l : List Rec} {o : List Int} {out : List Rec} {W : Nat} (h : Once l o out) (hok : ∀ x ∈ l, recOk x = true) (hW : W = 1 ∨ W = 2 ∨ W = 3) (hn : ∀ j : Nat, j < W → nextS o l j W = none) : ∀ g, g < 8 → fl g out = fl g l := fun g hg => by
  obtain ⟨m, h1, h2, h3⟩ := h.pos g hg
  rw [h3]
  by_cases hm : m < (fl g l).length
  · exfalso
    obtain ⟨j, y, a1, a2, a3, a4⟩ := nth_group g m l l.length (by rw [List.take_length]; exact hm)
    have hy := hok y (List.mem_of_getElem? a2)
    have hk0 : 0 ≤ y.k.tmod 8 := Int.tmod_nonneg 8 (recOk_k hy)
    have hk8 : y.k.tmod 8 < 8 := Int.tmod_lt_of_pos _ (by omega)
    have how : ∃ i : Nat, i < W ∧ ownS (y.k.tmod 8) W = i := by
      generalize y.k.tmod 8 = q at hk0 hk8
      have tab : ∀ W ∈ [1, 2, 3], ∀ q ∈ [(0 : Int), 1, 2, 3, 4, 5, 6, 7], (ownS q (W : Nat)).toNat < W ∧ ownS q (W : Nat) = (ownS q (W : Nat)).toNat := by decide
      have := tab W (by simp; omega) q (by simp; omega)
      exact ⟨_, this.1, this.2⟩
    obtain ⟨i, hi, how⟩ := how
    have hmine : mineS y i W = true := by
      unfold mineS
      rw [hy, share_lt hi hW, how]; simp
    have hno := hn i hi
    unfold nextS at hno
    rw [Option.map_eq_none_iff] at hno
    have hp := partsS_get (o := o) a2
    have := List.find?_eq_none.1 hno _ (List.mem_of_getElem? hp)
    simp only [hmine, Bool.and_true, Bool.not_eq_true', Bool.not_eq_false] at this
    rw [emit_eq, a3, a4, h1] at this
    simp at this
    omega
  · rw [List.take_of_length_le (by omega)]
theorem Once.le {l : List Rec} {o : List Int} {out : List Rec} (h : Once l o out) : out.length ≤ l.length := by
  have key : ∀ g, g < 8 → (fl g out).length ≤ (fl g l).length := fun g hg => by
    obtain ⟨m, h1, h2, h3⟩ := h.pos g hg
    rw [h3]; simp; omega
  rw [fl_sum out, fl_sum l]
  have := key 0 (by omega); have := key 1 (by omega); have := key 2 (by omega); have := key 3 (by omega); have := key 4 (by omega); have := key 5 (by omega); have := key 6 (by omega); have := key 7 (by omega)
  omega
theorem Once.full {l : List Rec} {o : List Int} {out : List Rec} (h : Once l o out) (hl : l.length ≤ out.length) : (∀ g, g < 8 → fl g out = fl g l) ∧ o = totS l := by
  have key : ∀ g, g < 8 → (fl g out).length ≤ (fl g l).length := fun g hg => by
    obtain ⟨m, h1, h2, h3⟩ := h.pos g hg
    rw [h3]; simp; omega
  have s1 := fl_sum out
  have s2 := fl_sum l
  have all : ∀ g, g < 8 → (fl g out).length = (fl g l).length := fun g hg => by
    have := key 0 (by omega); have := key 1 (by omega); have := key 2 (by omega); have := key 3 (by omega); have := key 4 (by omega); have := key 5 (by omega); have := key 6 (by omega); have := key 7 (by omega)
    match g, hg with
    | 0, _ | 1, _ | 2, _ | 3, _ | 4, _ | 5, _ | 6, _ | 7, _ => omega
  have eqs : ∀ g, g < 8 → o.getD g 0 = (totS l).getD g 0 ∧ fl g out = fl g l := fun g hg => by
    obtain ⟨m, h1, h2, h3⟩ := h.pos g hg
    have := all g hg
    rw [h3, List.length_take] at this
    have hm : m = (fl g l).length := by omega
    exact ⟨by rw [h1, totS_get l g hg, hm], by rw [h3, hm, List.take_length]⟩
  refine ⟨fun g hg => (eqs g hg).2, ?_⟩
  refine List.ext_getElem (by rw [h.len, totS_len]) fun g h1 h2 => ?_
  have := (eqs g (by rw [← h.len]; exact h1)).1
  rwa [List.getD_eq_getElem?_getD, List.getD_eq_getElem?_getD, List.getElem?_eq_getElem h1, List.getElem?_eq_getElem h2] at this
end Go.Proofs.Ytcpmoeamhaahlaa
