/- A cut without a choice. -/
import Derived.Test.YtcpmoeamhaahlaaM26
namespace Go.Proofs.Ytcpmoeamhaahlaa
open Go.RowKit
set_option linter.all false

theorem AW_seqC {P : Program} {N : Nat} {a : Nat → AV} {H : Heap} {Q : Post} {x y : Code} (fr : List (Nat × AV)) (hp : Heap)
    (hx : AW P N x a H (thenA (fun a' H' => Nxt True (Sl a' fr) (Heap.le hp H')) Q)) (hy : AW P N y (frm fr) hp Q) : AW P N (.seq x y) a H Q :=
  AW_seqS (σ := Unit) (fun _ => True) (fun _ => fr) (fun _ => hp) (hx.mono fun e a' H' h => (match e, h with
      | .normal, h => ⟨(), trivial, Nxt.s h, Nxt.h h⟩
      | .ret, h => h
      | .exit _, h => h
      | .goto _, h => h
      | .outgrown, h => h
      | .panic _, h => h)) (fun _ _ => hy)
end Go.Proofs.Ytcpmoeamhaahlaa
