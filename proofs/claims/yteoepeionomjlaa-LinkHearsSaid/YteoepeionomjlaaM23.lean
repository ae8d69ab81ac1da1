/- Ranges over functions, by what they tell. -/
import Derived.Test.YteoepeionomjlaaM22
namespace Go.Proofs.Yteoepeionomjlaa
open Go.RowKit
set_option linter.all false

section
variable {P : Program} {N : Nat} {a : Nat → AV} {H : Heap} {Q : Post}
theorem AW_rangeM {σ α : Type} {g : Operand} {ps : Array Tmp} {assign body : Code} {gf : FuncId} {caps : List AV} {l : List α} {f : α → List AV}
    (hg : ev a g = .f (.func gf) [] caps) (hit : PIter P gf caps (l.map f)) (hps : ∀ x, (f x).length = ps.size) (hpN : ∀ p ∈ ps.toList, p < N)
    (inv : Nat → σ → Prop) (hp : Nat → σ → Heap) (Ix : Exit → Heap → Prop) (s0 : σ) (h0 : inv 0 s0) (hH : Heap.le (hp 0 s0) H)
    (round : ∀ k x s, l[k]? = some x → inv k s → AW P N assign (putAll a ps.toList (f x)) (hp k s) (thenA (fun a1 B2 => AW P N body a1 B2 (roundQ (fun B' => ∃ s', inv (k + 1) s' ∧ Heap.le (hp (k + 1) s') B') Ix)) (fun _ _ _ => False)))
    (done : ∀ s, inv l.length s → Q .normal a (hp l.length s))
    (stop : ∀ e B', Ix e B' → Q e a B') : AW P N (.rangeFunc g ps assign body) a H Q := by
  refine AW_less_post (AW_rangeP hg hit (fun x hx => by obtain ⟨y, _, rfl⟩ := List.mem_map.1 hx; exact hps y) hpN (fun k B => ∃ s, inv k s ∧ Heap.le (hp k s) B) Ix ⟨s0, h0, hH⟩ ?_ ?_ ?_)
  · rintro k hk B ⟨s, hi, hle⟩
    have hk' : k < l.length := by simpa using hk
    have := round k l[k] s (List.getElem?_eq_getElem hk') hi
    rw [List.getElem_map]
    exact AW_less hle this
  · rintro B ⟨s, hi, hle⟩
    rw [List.length_map] at hi hle
    exact ⟨_, hle, done s hi⟩
  · exact fun e B h => ⟨B, Heap.le_refl _, stop e B h⟩
end
theorem set_ci' (t : List Int) (j : Nat) (v : Int) (h : j < t.length) : (t.map ci).take j ++ [.c (.int .i64 v)] ++ (t.map ci).drop (j + 1) = (t.set j v).map ci := by
  rw [List.map_set, List.set_eq_take_append_cons_drop, if_pos (by simpa using h)]; simp [ci]
theorem set_row (t : List (List AV)) (j : Nat) (v : List AV) (h : j < t.length) : t.take j ++ [v] ++ t.drop (j + 1) = t.set j v := by
  rw [List.set_eq_take_append_cons_drop, if_pos h]; simp
attribute [push_cast] List.drop_eq_nil_of_le List.length_set Option.isSome_some Option.isSome_none
/-- an iterator with memory of its own for as long as it goes -/
theorem PIter_own {P : Program} {gf : FuncId} {caps : List AV} {xs : List (List AV)} (he : Ent P gf)
    (h : ∀ (l : Nat) (J : Nat → Heap → Prop) (Jx : Heap → Prop), (∀ k (h : k < xs.length) B, J k B → AYield P l xs[k] B (fun b B' => (b = true ∧ J (k + 1) B') ∨ (b = false ∧ Jx B'))) →
      ∀ B, J 0 B → ACall P gf (.c (.func (.yield l) #[] #[]) :: caps) (join (fun _ => none) B) fun _ H' => ∃ A' B', H' = join A' B' ∧ Apart A' B' ∧ (J xs.length B' ∨ Jx B')) : PIter P gf caps xs :=
  PIter_of he fun l J Jx hr B h0 => by
    have := h l J Jx hr B h0
    rwa [join_emp] at this
theorem getM {α β : Type} {l : List α} {f : α → β} {k : Nat} {x : α} (hx : l[k]? = some x) : ∃ h : k < (l.map f).length, (l.map f)[k] = f x := by
  obtain ⟨hk, rfl⟩ := List.getElem?_eq_some_iff.1 hx
  exact ⟨by simpa using hk, by simp⟩
theorem yieldM {P : Program} {α : Type} {l : List α} {f : α → List AV} {lp : Nat} {J : Nat → Heap → Prop} {Jx : Heap → Prop}
    (hr : ∀ k (h : k < (l.map f).length) B, J k B → AYield P lp (l.map f)[k] B (fun b B' => (b = true ∧ J (k + 1) B') ∨ (b = false ∧ Jx B')))
    {k : Nat} {x : α} {B : Heap} (hx : l[k]? = some x) (hJ : J k B) : AYield P lp (f x) B (fun b B' => (b = true ∧ J (k + 1) B') ∨ (b = false ∧ Jx B')) := by
  obtain ⟨h1, h2⟩ := getM (f := f) hx
  have := hr k h1 B hJ
  rwa [h2] at this
theorem frzL_ci (n sz : Nat) (rows : List (List AV)) (l : List Int) : frzL n sz rows (l.map ci) = l.map ci := frzL_none (fun _ => by simp [ci, frz]) l
attribute [push_cast] frzL_ci
theorem Apart.right {A B : Heap} (h : Apart A B) {m : Nat} {k : Blk} (hA : A m = some k) : B m = none := by
  rcases h m with g | g
  · rw [hA] at g; cases g
  · exact g
theorem AW_rangeQ {P : Program} {N : Nat} {a : Nat → AV} {H : Heap} {Q : Post} {σ α : Type} {g : Operand} {ps : Array Tmp} {assign body : Code} {gf : FuncId} {caps : List AV} {l : List α} {f : α → List AV}
    (hg : ev a g = .f (.func gf) [] caps) (hit : PIter P gf caps (l.map f)) (hps : ∀ x, (f x).length = ps.size) (hpN : ∀ p ∈ ps.toList, p < N)
    (inv : Nat → σ → Prop) (hp : Nat → σ → Heap) (s0 : σ) (h0 : inv 0 s0) (hH : Heap.le (hp 0 s0) H)
    (round : ∀ k x s, l[k]? = some x → inv k s → AW P N assign (putAll a ps.toList (f x)) (hp k s) (thenA (fun a1 B2 => AW P N body a1 B2 (roundQ (fun B' => ∃ s', inv (k + 1) s' ∧ Heap.le (hp (k + 1) s') B') (fun e B' => Q e a B'))) (fun _ _ _ => False)))
    (done : ∀ s, inv l.length s → Q .normal a (hp l.length s)) : AW P N (.rangeFunc g ps assign body) a H Q :=
  AW_rangeM hg hit hps hpN inv hp (fun e B' => Q e a B') s0 h0 hH round done (fun e B' h => h)
end Go.Proofs.Yteoepeionomjlaa
