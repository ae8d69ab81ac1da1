/- Halves; where a row's beginning ends. -/
import Derived.Test.YtmkncbddjnaklaaMC
namespace Go.Proofs.Ytmkncbddjnaklaa
open Go.RowKit
set_option linter.all false

theorem Flat.t {xs : List AV} (h : ∀ x ∈ xs, Flat x) : Flat (.t xs) := fun F F' v hv => by
  obtain ⟨cs, rfl, h1, h2⟩ := hv.t_inv
  exact V.t_of ⟨h1, fun i y hy => h y (List.mem_of_getElem? hy) F F' _ (h2 i y hy)⟩
theorem Flat.two (u v : Value) : Flat (.t [.c u, .c v]) := Flat.t (by intro x hx; simp at hx; rcases hx with rfl | rfl <;> exact Flat.c _)
theorem binV_shr1 {P : Program} {t : TypeId} {k k' : IntKind} {m : Int} : binV P .shr t (.c (.int k m)) (.c (.int k' 1)) = some (.c (.int k (m.fdiv 2))) := by
  unfold binV
  have : min 1 k.bits = 1 := by cases k <;> rfl
  by_cases h : k = k' <;> simp [h, this] <;> (subst h; simp [this])
theorem fdiv2 (a b : Nat) : ((a : Int) + b).fdiv 2 = (((a + b) / 2 : Nat) : Int) := by
  rw [Int.fdiv_eq_ediv_of_nonneg _ (by decide)]; omega
attribute [push_cast] binV_shr1
/-- of how many at the beginning something holds -/
def lbd {α : Type} (p : α → Bool) (l : List α) : Nat := (l.takeWhile p).length
theorem lbd_le {α : Type} (p : α → Bool) : ∀ l : List α, lbd p l ≤ l.length
  | [] => by simp [lbd]
  | x :: l => by
    have := lbd_le p l
    unfold lbd at this ⊢
    by_cases h : p x = true
    · simp [List.takeWhile_cons, h]; exact this
    · simp [List.takeWhile_cons, h]
theorem lbd_cons {α : Type} (p : α → Bool) (x : α) (l : List α) : lbd p (x :: l) = if p x = true then lbd p l + 1 else 0 := by
  unfold lbd; by_cases h : p x = true <;> simp [List.takeWhile_cons, h]
theorem lbd_lt {α : Type} {p : α → Bool} : ∀ {l : List α} {i : Nat} {x : α}, i < lbd p l → l[i]? = some x → p x = true
  | [], i, x, h, hx => by simp at hx
  | y :: l, i, x, h, hx => by
    rw [lbd_cons] at h
    by_cases c : p y = true
    · rw [if_pos c] at h
      cases i with
      | zero => simp at hx; subst hx; exact c
      | succ i => simp at hx; exact lbd_lt (by omega) hx
    · rw [if_neg c] at h; omega
theorem lbd_at {α : Type} {p : α → Bool} : ∀ {l : List α} {x : α}, l[lbd p l]? = some x → p x = false
  | [], x, hx => by simp at hx
  | y :: l, x, hx => by
    rw [lbd_cons] at hx
    by_cases c : p y = true
    · rw [if_pos c] at hx; simp at hx; exact lbd_at hx
    · rw [if_neg c] at hx; simp at hx; subst hx; simpa using c
theorem lbd_dn {α : Type} {p : α → Bool} {l : List α} {h : Nat} {x : α} (hx : l[h]? = some x) (hp : p x = false) : lbd p l ≤ h := by
  rcases Nat.lt_or_ge h (lbd p l) with c | c
  · rw [lbd_lt c hx] at hp; cases hp
  · exact c
theorem lbd_up {α : Type} {p : α → Bool} {l : List α} {h : Nat} {x : α} (hx : l[h]? = some x) (hp : ∀ i y, i ≤ h → l[i]? = some y → p y = true) : h < lbd p l := by
  rcases Nat.lt_or_ge h (lbd p l) with c | c
  · exact c
  · have hl := (List.getElem?_eq_some_iff.1 hx).1
    have h1 : l[lbd p l]? = some l[lbd p l] := List.getElem?_eq_getElem (by omega)
    have := lbd_at h1
    rw [hp _ _ c h1] at this; cases this
/-- is there one of which it is nought, where the lesser ones end? -/
def bsF {α : Type} (c : α → Int) (l : List α) : Bool := match l[lbd (fun x => decide (c x < 0)) l]? with | some x => decide (c x = 0) | none => false
theorem bsF_some {α : Type} {c : α → Int} {l : List α} {i : Nat} {x : α} (hi : i = lbd (fun x => decide (c x < 0)) l) (hx : l[i]? = some x) : bsF c l = decide (c x = 0) := by
  subst hi; unfold bsF; rw [hx]
theorem bsF_none {α : Type} {c : α → Int} {l : List α} {i : Nat} (hi : i = lbd (fun x => decide (c x < 0)) l) (hx : l[i]? = none) : bsF c l = false := by
  subst hi; unfold bsF; rw [hx]
end Go.Proofs.Ytmkncbddjnaklaa
