/- A cut without a choice. -/
import Derived.Test.YteoepeionomjlaaM26
namespace Go.Proofs.Yteoepeionomjlaa
open Go.RowKit
set_option linter.all false

theorem AW_seqC {P : Program} {N : Nat} {a : Nat → AV} {H : Heap} {Q : Post} {x y : Code} (fr : List (Nat × AV)) (hp : Heap)
    (hx : AW P N x a H (thenA (fun a' H' => Nxt True (Sl a' fr) (Heap.le hp H')) Q)) (hy : AW P N y (frm fr) hp Q) : AW P N (.seq x y) a H Q :=
  AW_seqS (σ := Unit) (fun _ => True) (fun _ => fr) (fun _ => hp) (hx.mono fun e a' H' h => (match e, h with
      | .normal, h => ⟨(), trivial, Nxt.s h, Nxt.h h⟩
      | .ret, h => h
      | .exit _, h => h
      | .goto _, h => h
      | .outgrown, h => h
      | .panic _, h => h)) (fun _ _ => hy)
theorem OwnL.dele {H H0 : Heap} {x : AV} {ty : TypeId} {sz : Nat} {rows : List (List AV)} (h : OwnL H x ty sz rows H0) {m : Nat} {k : Blk} (hm : H0 m = some k) : OwnL (del H m) x ty sz rows (del H0 m) := by
  rcases h with ⟨e1, e2, rfl⟩ | ⟨n, cap, e1, e2, rfl⟩
  · exact .inl ⟨e1, e2, rfl⟩
  · have hne : n ≠ m := by rintro rfl; rw [del_same] at hm; cases hm
    refine .inr ⟨n, cap, e1, by rw [del_ne hne]; exact e2, ?_⟩
    funext q; simp only [del]; split <;> split <;> rfl
end Go.Proofs.Yteoepeionomjlaa
