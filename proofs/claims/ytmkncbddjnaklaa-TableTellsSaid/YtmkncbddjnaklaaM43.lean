/- A function that gives a slice of its own among other things, called with what the caller owns. -/
import Derived.Test.YtmkncbddjnaklaaM42
namespace Go.Proofs.Ytmkncbddjnaklaa
open Go.RowKit
set_option linter.all false

theorem Flat.s (n sz i len cap : Nat) : Flat (.s n sz i len cap) := fun F F' v h => by
  obtain ⟨o, rfl, g1, g2, g3⟩ := h.s_inv
  exact .s _ _ _ _ _ _ g1 g2 g3
theorem Flats.vs {F F' : Mem} : ∀ {xs : List AV} {vs : List Value}, (∀ y ∈ xs, Flat y) → Vs F xs vs → Vs F' xs vs
  | [], vs, _, h => by rw [h.nil_inv]; exact Vs.nil _
  | x :: xs, vs, hf, h => by
    obtain ⟨v, vs', rfl, h1, h2⟩ := h.cons_inv
    exact Vs.cons (hf x (by simp) _ _ _ h1) (Flats.vs (fun y hy => hf y (by simp [hy])) h2)
theorem Flat.g {xs : List AV} (h : ∀ y ∈ xs, Flat y) : Flat (.g xs) := fun F F' v hv => by
  cases hv with
  | g xs cs h1 h2 h3 =>
    have hs : Vs F xs cs.toList := ⟨by simpa using h1, fun i y hy => by rw [← arr_getD]; exact h3 i y hy⟩
    have hs' := Flats.vs (F' := F') h hs
    exact .g xs cs h1 h2 (fun i y hy => by rw [arr_getD]; exact hs'.2 i y hy)
theorem OwnL.flat {H H0 : Heap} {x : AV} {ty : TypeId} {sz : Nat} {rows : List (List AV)} (h : OwnL H x ty sz rows H0) : Flat x := by
  rcases h with ⟨⟨ad, rfl⟩, -, -⟩ | ⟨n, cap, rfl, -, -⟩
  · exact Flat.c _
  · exact Flat.s _ _ _ _ _
theorem ACall.lendT {P : Program} {f : FuncId} {args args' : List AV} {H : Heap} {ty : TypeId} {sz : Nat} {rows : List (List AV)} {R : AV → AV} (hR : ∀ y, Flat y → Flat (R y)) (hr : FlatR rows) (hl : Lents H args args') (h : ACall P f args' (fun _ => none) fun r' G => ∃ y, r' = R y ∧ OwnL G y ty sz rows fun _ => none) : ACall P f args H fun r' H' => ∃ y, r' = R y ∧ OwnL H' y ty sz rows H := by
  refine ⟨h.1, fun F w cs hv hs => (h.2 (F0 w) w cs (Lents.ok hs hl hv) ⟨fun b o v hb => hb, fun b o v k _ hk => (by cases hk), fun n k hk => (by cases hk)⟩).mono ?_⟩
  rintro e w' ⟨v, F', G, r', rfl, h1, h2, h3, y, rfl, h4⟩
  have hmem : ∀ b o u, F b o = some u → w'.cell? ⟨b, o, none⟩ = some u := fun b o u hb => by
    have := hs.mem b o u hb
    rw [← this]
    exact World.cell?_of_block (h3.block b (cell_lt this) rfl)
  have hold : ∀ n k, H n = some k → BlkOk F w' n k := fun n k hk => (hs.blk n k hk).heap (h3.block n (hs.lt hk) rfl)
  have hfl := hR y h4.flat F' F v h1
  rcases h4 with ⟨⟨ad, rfl⟩, rfl, -⟩ | ⟨n, cap, rfl, hn, -⟩
  · refine ⟨v, F, H, _, rfl, hfl, ⟨hmem, hs.off, hold⟩, ?_, _, rfl, .inl ⟨⟨ad, rfl⟩, rfl, rfl⟩⟩
    exact ⟨h3.os, h3.tape, h3.output, h3.size, fun n hn _ => h3.block n hn rfl, fun n k hk => .inl (by rw [hk]; simp), Mem.le.refl F, fun b o u hu => .inl hu⟩
  · have hnew : w.heap.size ≤ n := by
      rcases h3.new n _ hn with h | h
      · exact absurd rfl h
      · exact h
    have hH : H n = none := hs.fresh hnew
    obtain ⟨C, c1, c2, c3, c4, c5, c6⟩ := h2.blk n _ hn
    refine ⟨v, F, upd H n (.r ty sz cap rows), _, rfl, hfl, ⟨hmem, fun b o u k hb hk => ?_, fun m k hm => ?_⟩, ?_, _, rfl, .inr ⟨n, cap, rfl, upd_same _ _ _, (del_upd_same hH).symm⟩⟩
    · by_cases e : b = n
      · subst e; have := hs.memlt hb; omega
      · rw [upd_ne e] at hk; exact hs.off b o u k hb hk
    · by_cases e : m = n
      · subst e
        rw [upd_same] at hm; cases hm
        exact ⟨C, c1, c2, c3, c4, c5, ⟨c6.len, c6.one, fun i j y hy => hr i j y hy _ _ _ (c6.val i j y hy)⟩⟩
      · rw [upd_ne e] at hm; exact hold m k hm
    · refine ⟨h3.os, h3.tape, h3.output, h3.size, fun m hm _ => h3.block m hm rfl, fun m k hm => ?_, Mem.le.refl F, fun b o u hu => .inl hu⟩
      by_cases e : m = n
      · subst e; exact .inr hnew
      · rw [upd_ne e] at hm; left; rw [hm]; simp
end Go.Proofs.Ytmkncbddjnaklaa
