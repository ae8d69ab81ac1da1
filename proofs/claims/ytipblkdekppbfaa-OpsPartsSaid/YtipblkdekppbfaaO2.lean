/- General lemmas, over whatever program: what lies nested in what a law is handed, read as lists. -/
import Derived.Test.YtipblkdekppbfaaO
namespace Go.Proofs.Ytipblkdekppbfaa
open Go.ChangeShapes Go.WideShapes Go.ChangeAt Go.RowKit
set_option linter.unusedVariables false

theorem cell_addr {W : World} {a : Addr} {u : Value} (h : W.cell? a = some u) : a.spot = none ∧ a.block < W.heap.size := by
  unfold World.cell? at h
  split at h
  · rename_i hb
    split at h
    · cases h
    · rename_i hs
      refine ⟨?_, (Array.getElem?_eq_some_iff.1 hb).1⟩
      cases hsp : a.spot with
      | none => rfl
      | some x => rw [hsp] at hs; simp at hs
  · cases h

/-- A slice that lies in memory that a law is handed. -/
theorem open_nested {α : Type} {E : Enc α} {P : Program} {good : α → Prop} (hR : E.Reads P good) (hsz : P.cellsOf E.e = E.sz) {t : TypeId} (ht : P.underlying t = some (.slice E.e))
    {H : Type} {enc : TypeId × Value → H} {W : World} {b0 : Nat} {held : Bool} {fuel : Nat} {c : Value} {y : DataW H × List MemPlace}
    (h : DataW.trod enc P W b0 (fun _ => true) held fuel t [c] = some y) : ∃ l, Sl E W c l ∧ ∀ x ∈ l, good x := by
  rcases DataW.trod_slice ht h with ⟨h0, _⟩ | ⟨ad, len, cap, elems, rest, n, _, h1, _, _, hlc, hm, hl, hel, hsp, _⟩
  · simp at h0
    subst h0
    exact ⟨[], Sl.nil E W, fun x hx => by cases hx⟩
  · simp at h1
    subst h1
    obtain ⟨hrl, hrest⟩ := hsp rfl
    have hcap : 0 < cap → ad.spot = none ∧ ad.block < W.heap.size := by
      intro hc
      obtain ⟨cs, hcs⟩ : ∃ cs, W.cells? b0 (ad.add 0) (P.cellsOf E.e) = some cs := by
        by_cases hlen : 0 < len
        · have h2 := hel 0 hlen
          rw [List.getElem?_eq_getElem (by omega), Option.bind_eq_some_iff] at h2
          obtain ⟨cs, hcs, _⟩ := h2
          exact ⟨cs, by simpa using hcs⟩
        · have h2 := hrest 0 (by omega)
          rw [List.getElem?_eq_getElem (by omega), Option.bind_eq_some_iff] at h2
          obtain ⟨cs, hcs, _⟩ := h2
          have : len = 0 := by omega
          exact ⟨cs, by simpa [this] using hcs⟩
      obtain ⟨h2, h3⟩ := cells?_get hcs
      have hpos := E.pos
      have h4 := h3 0 (cs[0]'(by omega)) (List.getElem?_eq_getElem (by omega))
      have h5 : (ad.add 0).add 0 = ad := by simp [Addr.add]
      rw [h5] at h4
      exact cell_addr h4
    obtain ⟨l, hll, hg⟩ := list_of len (fun i x => good x ∧ ∀ j u, (E.f x)[j]? = some u → W.cell? ⟨ad.block, ad.off + i * E.sz + j, none⟩ = some u) (by
      intro i hi
      have h2 := hel i hi
      rw [List.getElem?_eq_getElem (by omega), Option.bind_eq_some_iff] at h2
      obtain ⟨cs, hcs, hy⟩ := h2
      obtain ⟨x, rfl, hx⟩ := hR _ _ _ _ _ _ _ _ hy
      refine ⟨x, hx, fun j u hu => ?_⟩
      have h3 := (cells?_get hcs).2 j u hu
      obtain ⟨b, off, sp⟩ := ad
      obtain ⟨hs, _⟩ := hcap (by omega)
      simp only at hs
      subst hs
      rw [hsz, Addr.add_lit, Addr.add_lit] at h3
      exact h3)
    refine ⟨l, ⟨some ad, cap, by rw [hll], by omega, hm, (fun h => by cases h), fun x hx hc => ?_⟩, fun x hx => ?_⟩
    · obtain rfl := Option.some.inj hx
      exact ⟨(hcap hc).1, (hcap hc).2, fun i hi j u hu => (hg i hi).2 j u hu⟩
    · obtain ⟨i, hi, rfl⟩ := List.getElem_of_mem hx
      exact (hg i hi).1
end Go.Proofs.Ytipblkdekppbfaa
