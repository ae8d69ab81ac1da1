/- A function that only reckons may be called with what the caller owns. -/
import Derived.Test.YteoepeionomjlaaM27
namespace Go.Proofs.Yteoepeionomjlaa
open Go.RowKit
set_option linter.all false

/-- x, in memory H, may be lent as y -/
def Lent (H : Heap) (x y : AV) : Prop := ∀ (F : Mem) (w : World) (v : Value), Sat F H w → V F x v → V (F0 w) y v
def Lents (H : Heap) : List AV → List AV → Prop
  | [], [] => True
  | x :: xs, y :: ys => Lent H x y ∧ Lents H xs ys
  | _, _ => False
theorem Sat.all {F : Mem} {H : Heap} {w : World} (h : Sat F H w) : F.le (F0 w) := fun b o v hb => h.mem b o v hb
theorem Lent.refl (H : Heap) (x : AV) : Lent H x x := fun F w v hs hv => hv.mono hs.all
theorem Lent.s {H : Heap} {n sz cap cap0 : Nat} {ty : TypeId} {rows : List (List AV)} (hn : H n = some (.r ty sz cap0 rows)) : Lent H (.s n sz 0 rows.length cap) (.l sz rows) := fun F w v hs hv => by
  obtain ⟨C, c1, c2, c3, c4, c5, c6⟩ := hs.blk n _ hn
  have hle : rows.length * sz ≤ C.size := by rw [c2]; exact Nat.mul_le_mul_right _ c3
  have hrr : ∀ i j y, at2 rows i j = some y → y.one = true ∧ V (F0 w) y (C.getD (i * sz + j) undef) ∧ F0 w n (i * sz + j) = some (C.getD (i * sz + j) undef) := fun i j y hy => by
    refine ⟨c6.one i j y hy, (c6.val i j y hy).mono hs.all, ?_⟩
    obtain ⟨b1, b2⟩ := c6.at2 hy
    have hlt := flat_lt b1 b2
    have : i * sz + j < C.size := by omega
    unfold F0
    rw [cell_of_row w n _ C ty (0, 0) c1]
    simp [Array.getD, this]
  have := hv.frz hs.all c6.len hrr
  rwa [frz_s rfl] at this
theorem OwnL.lent {H H0 : Heap} {x : AV} {ty : TypeId} {sz : Nat} {rows : List (List AV)} (h : OwnL H x ty sz rows H0) : Lent H x (.l sz rows) := by
  rcases h with ⟨⟨ad, rfl⟩, rfl, rfl⟩ | ⟨n, cap, rfl, h1, rfl⟩
  · exact fun F w v hs hv => Imp.nil_l (F := F0 w) sz v (hv.mono hs.all)
  · exact Lent.s h1
theorem Lents.ok {H : Heap} {F : Mem} {w : World} (hs : Sat F H w) : ∀ {xs ys : List AV} {cs : List Value}, Lents H xs ys → Vs F xs cs → Vs (F0 w) ys cs
  | [], [], cs, _, h => by rw [h.nil_inv]; exact Vs.nil _
  | x :: xs, y :: ys, cs, hl, h => by
    obtain ⟨v, vs, rfl, h1, h2⟩ := h.cons_inv
    exact Vs.cons (hl.1 F w v hs h1) (Lents.ok hs hl.2 h2)
  | [], _ :: _, _, hl, _ => hl.elim
  | _ :: _, [], _, hl, _ => hl.elim
/-- what a value is held for leans on no memory -/
def Flat (r : AV) : Prop := ∀ (F F' : Mem) (v : Value), V F r v → V F' r v
theorem Flat.c (v : Value) : Flat (.c v) := fun F F' u h => by rw [h.c_inv]; exact .c v
theorem ACall.lend {P : Program} {f : FuncId} {args args' : List AV} {H : Heap} {r : AV} (hr : Flat r) (hl : Lents H args args') (h : ACall P f args' (fun _ => none) fun r' _ => r' = r) : ACall P f args H fun r' H' => r' = r ∧ H' = H := by
  refine ⟨h.1, fun F w cs hv hs => (h.2 (F0 w) w cs (Lents.ok hs hl hv) ⟨fun b o v hb => hb, fun b o v k _ hk => (by cases hk), fun n k hk => (by cases hk)⟩).mono ?_⟩
  rintro e w' ⟨v, F', H', r', rfl, h1, h2, h3, rfl⟩
  refine ⟨v, F, H, r', rfl, hr _ _ _ h1, ?_, ?_, rfl, rfl⟩
  · refine ⟨fun b o u hb => ?_, hs.off, fun n k hk => (hs.blk n k hk).heap (h3.block n (hs.lt hk) rfl)⟩
    have := hs.mem b o u hb
    rw [← this]
    exact World.cell?_of_block (h3.block b (cell_lt this) rfl)
  · exact ⟨h3.os, h3.tape, h3.output, h3.size, fun n hn _ => h3.block n hn rfl, fun n k hk => .inl (by rw [hk]; simp), Mem.le.refl F, fun b o u hu => .inl hu⟩
end Go.Proofs.Yteoepeionomjlaa
