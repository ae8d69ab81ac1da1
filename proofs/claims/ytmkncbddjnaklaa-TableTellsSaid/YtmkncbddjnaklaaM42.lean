/- What a block of one row is known to hold, said in other words. -/
import Derived.Test.YtmkncbddjnaklaaM41
import Derived.Test.YtmkncbddjnaklaaM40
namespace Go.Proofs.Ytmkncbddjnaklaa
open Go.RowKit
set_option linter.all false

section
variable {P : Program} {N : Nat} {a : Nat → AV} {Q : Post}
/-- whatever is a y is a y' -/
def Is (y y' : AV) : Prop := (y.one = true → y'.one = true) ∧ ∀ F v, V F y v → V F y' v
theorem Is.refl (y : AV) : Is y y := ⟨id, fun _ _ h => h⟩
theorem Is.nil (sz : Nat) (ad : Option Addr) : Is (.c (.slice ad 0 0)) (.l sz []) := ⟨fun _ => rfl, fun F v h => (Imp.nil_l (F := F) (F' := F) sz) v h⟩
inductive Iss : List AV → List AV → Prop
  | nil : Iss [] []
  | cons {y y' ys ys'} : Is y y' → Iss ys ys' → Iss (y :: ys) (y' :: ys')
theorem Iss.len {ys ys' : List AV} (h : Iss ys ys') : ys.length = ys'.length := by
  induction h with
  | nil => rfl
  | cons _ _ ih => simp [ih]
theorem Iss.get {ys ys' : List AV} (h : Iss ys ys') : ∀ {j : Nat} {y' : AV}, ys'[j]? = some y' → ∃ y, ys[j]? = some y ∧ Is y y' := by
  induction h with
  | nil => intro j y' h; simp at h
  | cons h1 h2 ih =>
    intro j y' h
    cases j with
    | zero => rw [List.getElem?_cons_zero, Option.some.injEq] at h; subst h; exact ⟨_, by simp, h1⟩
    | succ j => rw [List.getElem?_cons_succ] at h ⊢; exact ih h
theorem AW_rowIs {c : Code} {H : Heap} {n : Nat} {ty : TypeId} {sz cap : Nat} {ys ys' : List AV} (hI : Iss ys ys') (h : AW P N c a (upd H n (.r ty sz cap [ys'])) Q) : AW P N c a (upd H n (.r ty sz cap [ys])) Q := by
  refine AW_sub (fun F w hs => ?_) (fun m => ?_) h
  · refine ⟨hs.mem, fun b o v k hF hk => ?_, fun m k hk => ?_⟩
    · by_cases e : b = n
      · subst e; exact hs.off b o v _ hF (upd_same _ _ _)
      · rw [upd_ne e] at hk; exact hs.off b o v k hF (by rw [upd_ne e]; exact hk)
    · by_cases e : m = n
      · subst e
        rw [upd_same] at hk; cases hk
        obtain ⟨C, c1, c2, c3, c4, c5, c6⟩ := hs.blk m _ (upd_same _ _ _)
        have key : ∀ (i j : Nat) (y' : AV), at2 [ys'] i j = some y' → ∃ y, at2 [ys] i j = some y ∧ Is y y' := fun i j y' hy => by
          cases i with
          | zero => exact hI.get (by simpa [at2] using hy)
          | succ i => simp [at2] at hy
        exact ⟨C, c1, c2, c3, c4, c5, fun e he => by rw [List.mem_singleton] at he; subst he; rw [← hI.len]; exact c6.len ys (by simp),
          fun i j y' hy => by obtain ⟨y, g1, g2⟩ := key i j y' hy; exact g2.1 (c6.one i j y g1),
          fun i j y' hy => by obtain ⟨y, g1, g2⟩ := key i j y' hy; exact g2.2 F _ (c6.val i j y g1)⟩
      · rw [upd_ne e] at hk; exact hs.blk m k (by rw [upd_ne e]; exact hk)
  · by_cases e : m = n
    · subst e; simp [upd_same]
    · rw [upd_ne e, upd_ne e]
end
end Go.Proofs.Ytmkncbddjnaklaa
