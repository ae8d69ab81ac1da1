/- What is known of a block is forgotten in part. -/
import Derived.Test.YtmkncbddjnaklaaM39
namespace Go.Proofs.Ytmkncbddjnaklaa
open Go.RowKit
set_option linter.all false

section
variable {P : Program} {N : Nat} {a : Nat → AV} {Q : Post}
theorem Ext.iffn {F F' : Mem} {H H2 H' : Heap} {w w' : World} (h : Ext F H2 w F' H' w') (hd : ∀ n, H n = none ↔ H2 n = none) : Ext F H w F' H' w' :=
  ⟨h.os, h.tape, h.output, h.size, fun n hn hH => h.block n hn ((hd n).1 hH), fun n k hk => by
    rcases h.new n k hk with g | g
    · exact .inl (fun e => g ((hd n).1 e))
    · exact .inr g, h.le, fun b o v hv => by
    rcases h.frz b o v hv with g | g | g
    · exact .inl g
    · exact .inr (.inl (fun e => g ((hd b).1 e)))
    · exact .inr (.inr g)⟩
theorem AW_sub {c : Code} {H H2 : Heap} (hs : ∀ F w, Sat F H w → Sat F H2 w) (hd : ∀ n, H n = none ↔ H2 n = none) (h : AW P N c a H2 Q) : AW P N c a H Q := fun Fe n hF B F w act hr => by
  have hr2 : Rel F ⟨B, Fe.round⟩ N a H2 act w := by
    obtain ⟨⟨Ds, d1, d2, d3⟩, g1, g2, g3, g4, g5⟩ := hr
    exact ⟨⟨Ds, d1, d2, fun D hD => ⟨(d3 D hD).1, (hd D).1 (d3 D hD).2.1, (d3 D hD).2.2⟩⟩, g1, fun l e => ⟨(g2 l e).1, (hd l).1 (g2 l e).2⟩, g3, g4, hs F w g5⟩
  refine wpIn_mono (h Fe n hF B F w act hr2) ?_
  rintro e act' w' ⟨F', a', H', h1, h2, h3⟩
  exact ⟨F', a', H', h1, h2.iffn hd, h3⟩
/-- the first rows of a block are kept in mind -/
theorem AW_shrink {c : Code} {H : Heap} {n : Nat} {ty : TypeId} {sz cap : Nat} {rows : List (List AV)} (i : Nat) (h : AW P N c a (upd H n (.r ty sz cap (rows.take i))) Q) : AW P N c a (upd H n (.r ty sz cap rows)) Q := by
  refine AW_sub (fun F w hs => ?_) (fun m => ?_) h
  · refine ⟨hs.mem, fun b o v k hF hk => ?_, fun m k hk => ?_⟩
    · by_cases e : b = n
      · subst e; exact hs.off b o v _ hF (upd_same _ _ _)
      · rw [upd_ne e] at hk; exact hs.off b o v k hF (by rw [upd_ne e]; exact hk)
    · by_cases e : m = n
      · subst e
        rw [upd_same] at hk; cases hk
        obtain ⟨C, c1, c2, c3, c4, c5, c6⟩ := hs.blk m _ (upd_same _ _ _)
        exact ⟨C, c1, c2, by simp; omega, c4, c5, c6.take i⟩
      · rw [upd_ne e] at hk; exact hs.blk m k (by rw [upd_ne e]; exact hk)
  · by_cases e : m = n
    · subst e; simp [upd_same]
    · rw [upd_ne e, upd_ne e]
end
theorem binV_xor {P : Program} {t : TypeId} {k : IntKind} {m n : Int} : binV P .xor t (.c (.int k m)) (.c (.int k n)) = some (.c (.int k (bits .xor k m n))) := by unfold binV; simp [binI]
attribute [push_cast] binV_xor
theorem take_set_lt {α : Type} {R : List α} {i : Nat} {v : α} (h : i < R.length) : (R.set i v).take (i + 1) = R.take i ++ [v] := by
  apply List.ext_getElem?
  intro m
  rw [List.getElem?_take]
  by_cases c1 : m < i
  · rw [if_pos (by omega), List.getElem?_set_ne (by omega), List.getElem?_append_left (by simp; omega), List.getElem?_take, if_pos c1]
  · by_cases c2 : m = i
    · subst c2
      rw [if_pos (by omega), List.getElem?_set_self h, List.getElem?_append_right (by simp; omega)]
      have : m - (R.take m).length = 0 := by simp; omega
      rw [this]; rfl
    · rw [if_neg (by omega), List.getElem?_append_right (by simp; omega)]
      have : 1 ≤ m - (R.take i).length := by simp; omega
      rw [List.getElem?_eq_none (by simp; omega)]
/-- rows that are drawn together: of the first j those that stay stand ahead -/
structure DR {α : Type} (enc : α → List AV) (l : List α) (keep : α → Bool) (j : Nat) (R : List (List AV)) : Prop where
  n : R.length = l.length
  t : R.take ((l.take j).filter keep).length = ((l.take j).filter keep).map enc
  b : ∀ m, j ≤ m → R[m]? = (l.map enc)[m]?
  w : ∀ e ∈ R, ∃ x, e = enc x
theorem DR.le {α : Type} (l : List α) (keep : α → Bool) (j : Nat) : ((l.take j).filter keep).length ≤ j := Nat.le_trans (List.length_filter_le _ _) (by simp; omega)
theorem DR.step_no {α : Type} {enc : α → List AV} {l : List α} {keep : α → Bool} {j : Nat} {R : List (List AV)} {x : α} (h : DR enc l keep j R) (hx : l[j]? = some x) (hk : keep x = false) : DR enc l keep (j + 1) R := by
  have e : (l.take (j + 1)).filter keep = (l.take j).filter keep := by rw [take_snoc hx, List.filter_append]; simp [hk]
  exact ⟨h.n, by rw [e]; exact h.t, fun m hm => h.b m (by omega), h.w⟩
theorem DR.step_yes {α : Type} {enc : α → List AV} {l : List α} {keep : α → Bool} {j : Nat} {R : List (List AV)} {x : α} (h : DR enc l keep j R) (hx : l[j]? = some x) (hk : keep x = true) : DR enc l keep (j + 1) (R.set ((l.take j).filter keep).length (enc x)) ∧ ((l.take (j + 1)).filter keep).length = ((l.take j).filter keep).length + 1 := by
  have e : (l.take (j + 1)).filter keep = (l.take j).filter keep ++ [x] := by rw [take_snoc hx, List.filter_append]; simp [hk]
  have hj := (List.getElem?_eq_some_iff.1 hx).1
  have hle := DR.le l keep j
  refine ⟨⟨by simp [h.n], ?_, fun m hm => ?_, fun r hr => by
    rcases List.mem_or_eq_of_mem_set hr with hr | rfl
    · exact h.w r hr
    · exact ⟨x, rfl⟩⟩, by rw [e]; simp⟩
  · rw [e, List.length_append, List.length_singleton, take_set_lt (by rw [h.n]; omega), h.t]; simp
  · rw [List.getElem?_set_ne (by omega)]; exact h.b m (by omega)
theorem DR.start {α : Type} {enc : α → List AV} {l : List α} {keep : α → Bool} {i : Nat} (ha : ∀ j y, j < i → l[j]? = some y → keep y = true) {x : α} (hx : l[i]? = some x) (hk : keep x = false) : DR enc l keep (i + 1) (l.map enc) ∧ ((l.take (i + 1)).filter keep).length = i := by
  have hi := (List.getElem?_eq_some_iff.1 hx).1
  have e0 : (l.take i).filter keep = l.take i := List.filter_eq_self.2 (fun y hy => by
    obtain ⟨j, hj⟩ := List.getElem?_of_mem hy
    rw [List.getElem?_take] at hj
    split at hj
    · exact ha j y (by assumption) hj
    · cases hj)
  have e : (l.take (i + 1)).filter keep = l.take i := by rw [take_snoc hx, List.filter_append, e0]; simp [hk]
  have h1 : ((l.take (i + 1)).filter keep).length = i := by rw [e]; simp; omega
  exact ⟨⟨by simp, by rw [h1, e]; simp, fun m _ => rfl, fun r hr => by obtain ⟨x, _, rfl⟩ := List.mem_map.1 hr; exact ⟨x, rfl⟩⟩, h1⟩
theorem idxS_cases {α : Type} (p : α → Bool) (l : List α) : (idxS p l = -1 ∧ ∀ x ∈ l, p x = false) ∨ ∃ (i : Nat) (x : α), idxS p l = (i : Int) ∧ l[i]? = some x ∧ p x = true ∧ ∀ j y, j < i → l[j]? = some y → p y = false := by
  unfold idxS
  cases h : l.findIdx? p with
  | none => exact .inl ⟨rfl, fun x hx => by have := List.findIdx?_eq_none_iff.1 h x hx; simpa using this⟩
  | some i =>
    obtain ⟨hi, h1, h2⟩ := List.findIdx?_eq_some_iff_getElem.1 h
    refine .inr ⟨i, l[i], rfl, List.getElem?_eq_getElem hi, h1, fun j y hj hy => ?_⟩
    obtain ⟨q1, q2⟩ := List.getElem?_eq_some_iff.1 hy
    have := h2 j hj
    rw [q2] at this; simpa using this
end Go.Proofs.Ytmkncbddjnaklaa
