/- Stops in the middle of a walk. -/
import Derived.Test.YtcmpciciodcddaaMC
namespace Go.Proofs.Ytcmpciciodcddaa
open Go.RowKit
set_option linter.unusedVariables false
set_option linter.unusedSimpArgs false
set_option linter.constructorNameAsVariable false

theorem unhid {p : Prop} (h : Hid p) : p := h
/-- here a walk stops -/
structure Stop (p : Prop) : Prop where
  go : p
section
variable {P : Program} {N : Nat} {a : Nat → AV} {H : Heap} {Q : Post}
/-- ahead of a region that a test follows -/
theorem AW_at {id : Nat} {ops : Array Oper} {dr : Bool} {c y : Code} (h : Stop (AW P N (.seq (.seq (.region id ops dr) c) y) a H Q)) : AW P N (.seq (.seq (.region id ops dr) c) y) a H Q := h.go
/-- ahead of a region -/
theorem AW_atR {id : Nat} {ops : Array Oper} {dr : Bool} {y : Code} (h : Stop (AW P N (.seq (.region id ops dr) y) a H Q)) : AW P N (.seq (.region id ops dr) y) a H Q := h.go
/-- a cut in a sequence; what a round leaves is kept whole -/
theorem AW_seqX {σ : Type} {x y : Code} (inv : σ → Prop) (fr : σ → List (Nat × AV)) (hp : σ → Heap)
    (hx : AW P N x a H (thenA (fun a' H' => ∃ s, Nxt (inv s) (Sl a' (fr s)) (Heap.le (hp s) H')) Q)) (hy : ∀ s, inv s → AW P N y (frm (fr s)) (hp s) Q) : AW P N (.seq x y) a H Q :=
  AW_seqS inv fr hp (hx.mono fun e a' H' h => by
    cases e with
    | normal => obtain ⟨s, h1⟩ := h; exact ⟨s, h1.p, h1.s, h1.h⟩
    | _ => exact h) hy
end
/-- rows, held cell by cell -/
theorem Imp.l {F F' : Mem} (hF : F.le F') {sz : Nat} {rows rows' : List (List AV)} (hl : rows'.length = rows.length) (hs : ∀ e ∈ rows', e.length = sz)
    (h : ∀ i j y, at2 rows' i j = some y → y.one = true ∧ ∃ x, at2 rows i j = some x ∧ Imp F F' x y) : Imp F F' (.l sz rows) (.l sz rows') := fun v hv => by
  obtain ⟨a, cap, u, rfl, h1, h2, h3, h4, h5, h6⟩ := hv.l_inv
  rw [← hl]
  refine .l sz rows' a rows'.length cap u rfl (by rw [hl]; exact h1) h2 h3 hs (fun i j y hy => (h i j y hy).1) (fun i j y hy => ?_) (fun ad ha hc => ⟨(h6 ad ha (by rw [← hl]; exact hc)).1, fun i j y hy => ?_⟩)
  · obtain ⟨x, hx, hi⟩ := (h i j y hy).2
    exact hi _ (h5 i j x hx).2
  · obtain ⟨x, hx, hi⟩ := (h i j y hy).2
    exact hF _ _ _ ((h6 ad ha (by rw [← hl]; exact hc)).2 i j x hx)
theorem Imp.lm {F F' : Mem} (hF : F.le F') {sz : Nat} {α : Type} {f g : α → List AV} (l : List α) (hs : ∀ x ∈ l, (g x).length = sz) (h1 : ∀ x ∈ l, ∀ y ∈ g x, y.one = true) (h : ∀ x ∈ l, Imps F F' (f x) (g x)) : Imp F F' (.l sz (l.map f)) (.l sz (l.map g)) := by
  refine Imp.l hF (by simp) (fun e he => ?_) (fun i j y hy => ?_)
  · obtain ⟨x, hx, rfl⟩ := List.mem_map.1 he
    exact hs x hx
  · obtain ⟨e, he, hj⟩ := at2_some.1 hy
    rw [List.getElem?_map] at he
    cases hx : l[i]? with
    | none => rw [hx] at he; cases he
    | some x =>
      rw [hx] at he
      simp only [Option.map_some, Option.some.injEq] at he
      subst he
      have hm := List.mem_of_getElem? hx
      obtain ⟨hlen, hI⟩ := h x hm
      have hjl : j < (f x).length := by rw [hlen]; exact (List.getElem?_eq_some_iff.1 hj).1
      refine ⟨h1 x hm y (List.mem_of_getElem? hj), (f x)[j], at2_some.2 ⟨f x, by rw [List.getElem?_map, hx]; rfl, List.getElem?_eq_getElem hjl⟩, (hI j _ y (List.getElem?_eq_getElem hjl) hj).1⟩
end Go.Proofs.Ytcmpciciodcddaa
