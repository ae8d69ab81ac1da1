/- A function whose results lean on nothing, called with what the caller owns. -/
import Derived.Test.YtmkncbddjnaklaaM43
namespace Go.Proofs.Ytmkncbddjnaklaa
open Go.RowKit
set_option linter.all false

/-- blocks of rows whose cells lean on no memory -/
def FlatH (G : Heap) : Prop := ∀ n b, G n = some b → ∃ ty sz cap rows, b = .r ty sz cap rows ∧ FlatR rows
theorem FlatH.none : FlatH (fun _ => none) := fun n b h => by cases h
theorem OwnL.flatH {G G0 : Heap} {x : AV} {ty : TypeId} {sz : Nat} {rows : List (List AV)} (h : OwnL G x ty sz rows G0) (hr : FlatR rows) (h0 : FlatH G0) : FlatH G := fun n b hb => by
  rcases h with ⟨-, -, rfl⟩ | ⟨m, cap, -, hm, rfl⟩
  · exact h0 n b hb
  · by_cases e : n = m
    · subst e; rw [hm] at hb; cases hb; exact ⟨_, _, _, _, rfl, hr⟩
    · exact h0 n b (by rw [del_ne e]; exact hb)
theorem ACall.lendG {P : Program} {f : FuncId} {args args' : List AV} {H : Heap} {K : AV → Heap → Prop} (hK : ∀ r G, K r G → Flat r ∧ FlatH G) (hl : Lents H args args') (h : ACall P f args' (fun _ => none) K) : ACall P f args H fun r' H' => ∃ G, H' = join H G ∧ Apart H G ∧ K r' G := by
  refine ⟨h.1, fun F w cs hv hs => (h.2 (F0 w) w cs (Lents.ok hs hl hv) ⟨fun b o v hb => hb, fun b o v k _ hk => (by cases hk), fun n k hk => (by cases hk)⟩).mono ?_⟩
  rintro e w' ⟨v, F', G, r', rfl, h1, h2, h3, h4⟩
  obtain ⟨hfl, hG⟩ := hK _ _ h4
  have hmem : ∀ b o u, F b o = some u → w'.cell? ⟨b, o, none⟩ = some u := fun b o u hb => by
    have := hs.mem b o u hb
    rw [← this]
    exact World.cell?_of_block (h3.block b (cell_lt this) rfl)
  have hold : ∀ n k, H n = some k → BlkOk F w' n k := fun n k hk => (hs.blk n k hk).heap (h3.block n (hs.lt hk) rfl)
  have hnew : ∀ n b, G n = some b → w.heap.size ≤ n := fun n b hb => by
    rcases h3.new n _ hb with h | h
    · exact absurd rfl h
    · exact h
  have hap : Apart H G := fun n => by
    cases hg : G n with
    | none => exact .inr rfl
    | some b => exact .inl (hs.fresh (hnew n b hg))
  refine ⟨v, F, join H G, r', rfl, hfl F' F v h1, ⟨hmem, fun b o u k hb hk => ?_, fun m k hm => ?_⟩, ?_, G, rfl, hap, h4⟩
  · cases hH : H b with
    | some k0 => exact hs.off b o u k0 hb hH
    | none => rw [join_right hH] at hk; have := hs.memlt hb; have := hnew b k hk; omega
  · cases hH : H m with
    | some k0 => rw [join_left hH] at hm; cases hm; exact hold _ _ hH
    | none =>
      rw [join_right hH] at hm
      obtain ⟨ty, sz, cap, rows, rfl, hr⟩ := hG m k hm
      obtain ⟨C, c1, c2, c3, c4, c5, c6⟩ := h2.blk m _ hm
      exact ⟨C, c1, c2, c3, c4, c5, ⟨c6.len, c6.one, fun i j y hy => hr i j y hy _ _ _ (c6.val i j y hy)⟩⟩
  · refine ⟨h3.os, h3.tape, h3.output, h3.size, fun m hm _ => h3.block m hm rfl, fun m k hm => ?_, Mem.le.refl F, fun b o u hu => .inl hu⟩
    cases hH : H m with
    | some k0 => left; simp
    | none => rw [join_right hH] at hm; exact .inr (hnew m k hm)
end Go.Proofs.Ytmkncbddjnaklaa
