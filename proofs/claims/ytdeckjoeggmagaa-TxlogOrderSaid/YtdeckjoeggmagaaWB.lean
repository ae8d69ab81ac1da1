/- What a block holds may be told in other words. -/
import Derived.Test.YtdeckjoeggmagaaLN
namespace Go.Proofs.Ytdeckjoeggmagaa
open Go.RowKit
set_option linter.unusedVariables false
set_option linter.constructorNameAsVariable false

section
variable {P : Program} {N : Nat} {a : Nat → AV} {H : Heap} {Q : Post}
theorem Sat.blkW {F : Mem} {w : World} {m sz cap : Nat} {ty : TypeId} {rows rows' : List (List AV)} (hs : Sat F H w) (hm : H m = some (.r ty sz cap rows)) (hl : rows'.length = rows.length) (he : ∀ e ∈ rows', e.length = sz)
    (hr : ∀ (i j : Nat) (y : AV), at2 rows' i j = some y → y.one = true ∧ ∃ x, at2 rows i j = some x ∧ ∀ (F : Mem) (v : Value), V F x v → V F y v) : Sat F (upd H m (.r ty sz cap rows')) w := by
  refine ⟨hs.mem, fun b o v k hF hk => ?_, fun n k hk => ?_⟩
  · by_cases e : b = m
    · subst e; exact hs.off b o v _ hF hm
    · rw [upd_ne e] at hk; exact hs.off b o v k hF hk
  · by_cases e : n = m
    · subst e
      rw [upd_same] at hk
      cases hk
      obtain ⟨C, c1, c2, c3, c4, c5, c6⟩ := hs.blk n _ hm
      refine ⟨C, c1, c2, by rw [hl]; exact c3, c4, c5, he, fun i j y hy => (hr i j y hy).1, fun i j y hy => ?_⟩
      obtain ⟨-, x, hx, hv⟩ := hr i j y hy
      exact hv F _ (c6.val i j x hx)
    · rw [upd_ne e] at hk; exact hs.blk n k hk
theorem AW_blkW {c : Code} {m sz cap : Nat} {ty : TypeId} {rows rows' : List (List AV)} (hm : H m = some (.r ty sz cap rows)) (hl : rows'.length = rows.length) (he : ∀ e ∈ rows', e.length = sz)
    (hr : ∀ (i j : Nat) (y : AV), at2 rows' i j = some y → y.one = true ∧ ∃ x, at2 rows i j = some x ∧ ∀ (F : Mem) (v : Value), V F x v → V F y v) (h : AW P N c a (upd H m (.r ty sz cap rows')) Q) : AW P N c a H Q := by
  intro Fe n hF B F w act hrl
  have hn : ∀ q, H q = none → (upd H m (.r ty sz cap rows')) q = none := fun q hq => by
    rw [upd_ne]; exact hq
    rintro rfl; rw [hm] at hq; cases hq
  have hn2 : ∀ q, (upd H m (.r ty sz cap rows')) q ≠ none → H q ≠ none := fun q hq e => hq (hn q e)
  obtain ⟨Ds, d1, d2, d3⟩ := hrl.dfr
  refine wpIn_mono (h Fe n hF B F w act ⟨⟨Ds, d1, d2, fun D hD => ⟨(d3 D hD).1, hn D (d3 D hD).2.1, (d3 D hD).2.2⟩⟩, hrl.low, fun l hl => ⟨(hrl.rnd l hl).1, hn l (hrl.rnd l hl).2⟩, hrl.size, hrl.vf, hrl.sat.blkW hm hl he hr⟩) ?_
  rintro e act' w' ⟨F', a', H', h1, h2, h3⟩
  refine ⟨F', a', H', h1, ⟨h2.os, h2.tape, h2.output, h2.size, fun q hq hH => h2.block q hq (hn q hH), fun q k hk => ?_, h2.le, fun b o v hv => ?_⟩, h3⟩
  · rcases h2.new q k hk with g | g
    · exact .inl (hn2 q g)
    · exact .inr g
  · rcases h2.frz b o v hv with g | g | g
    · exact .inl g
    · exact .inr (.inl (hn2 b g))
    · exact .inr (.inr g)
end
/-- a log that is nil -/
theorem AW_zero {P : Program} {N : Nat} {a : Nat → AV} {H : Heap} {Q : Post} {c : Code} {m : Nat} {ty : TypeId} (hm : H m = some (.r ty 3 1 [zL])) (h : AW P N c a (upd H m (.r ty 3 1 [Lg.av zeroL])) Q) : AW P N c a H Q := by
  refine AW_blkW (rows' := [Lg.av zeroL]) hm rfl (by intro e he; simp only [List.mem_singleton] at he; subst he; rfl) (fun i j y hy => ?_) h
  cases i with
  | succ i => simp [at2] at hy
  | zero =>
    simp only [at2, List.getElem?_cons_zero, Option.bind_some, Lg.av, zeroL, List.map_nil] at hy ⊢
    rcases j with _ | _ | _ | j
    · simp only [List.getElem?_cons_zero, Option.some.injEq] at hy; subst hy
      exact ⟨rfl, _, rfl, fun F v hv => Imp.nil_l (F := F) 5 v hv⟩
    · simp at hy; subst hy
      exact ⟨rfl, _, rfl, fun F v hv => Imp.nil_l (F := F) 3 v hv⟩
    · simp at hy; subst hy
      exact ⟨rfl, _, rfl, fun F v hv => Imp.nil_l (F := F) 3 v hv⟩
    · simp at hy
end Go.Proofs.Ytdeckjoeggmagaa
