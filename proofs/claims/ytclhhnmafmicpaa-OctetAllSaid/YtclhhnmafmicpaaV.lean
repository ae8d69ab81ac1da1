/- Lemmas: bytes that may be written. Conditions: as each theorem states them. -/
import Derived.Test.YtclhhnmafmicpaaD
namespace Go.Proofs.Ytclhhnmafmicpaa
open Go.RowKit
set_option linter.unusedVariables false

/-- n bytes that may be written, in a block from B on. -/
def WrB (w : World) (B : Nat) (v : Value) (n : Nat) : Prop :=
  ∃ a cap, v = .slice a n cap ∧ (n ≠ 0 → ∃ g off cur, a = some ⟨g, off, none⟩ ∧ B ≤ g ∧ w.heap[g]? = some (.cells cur 5 (0, 0)) ∧ ∀ i, i < n → ∃ c : UInt8, cur[off + i]? = some (.int .u8 (c.toNat : Int)))

theorem Own.wr {w : World} {base : Nat} {v : Value} {l : List UInt8} (h : Own EB w base v l) : WrB w base v l.length := by
  have hc := h
  obtain ⟨h1, ⟨rfl, h2⟩ | ⟨g, cap, cur, rfl, hb, hg, hn, hm, hs, ht⟩⟩ := hc
  · exact ⟨none, 0, by rw [h2], fun hne => absurd h2 hne⟩
  · refine ⟨_, _, rfl, fun _ => ⟨g, 0, cur, rfl, hb, hg, fun i hi => ⟨l[i], ?_⟩⟩⟩
    have h3 : cur.toList.take l.length = l.flatMap EB.f := by simpa [EB, encB] using ht
    have h4 := EB.flat_get l i hi 0 (by decide)
    have h5 : (cur.toList.take l.length)[i]? = some (.int .u8 (l[i].toNat : Int)) := by rw [h3]; simpa [EB, encB] using h4
    rw [List.getElem?_take, if_pos hi] at h5
    simpa using h5

theorem WrB.set {w : World} {B : Nat} {v : Value} {n : Nat} (h : WrB w B v n) (b o : Nat) (c : UInt8) : WrB (w.setCell ⟨b, o, none⟩ (.int .u8 (c.toNat : Int))) B v n := by
  obtain ⟨a, cap, rfl, h2⟩ := h
  refine ⟨a, cap, rfl, fun hn => ?_⟩
  obtain ⟨g, off, cur, rfl, hb, hg, hc⟩ := h2 hn
  by_cases hbg : b = g
  · subst hbg
    refine ⟨b, off, cur.setIfInBounds o (.int .u8 (c.toNat : Int)), rfl, hb, blk_set hg _, fun i hi => ?_⟩
    obtain ⟨c', hc'⟩ := hc i hi
    rw [Array.getElem?_setIfInBounds]
    split
    · split
      · exact ⟨c, rfl⟩
      · rename_i h3 h4
        rw [← h3, Array.getElem?_eq_none (by omega)] at hc'
        cases hc'
    · exact ⟨c', hc'⟩
  · exact ⟨g, off, cur, rfl, hb, by rw [Below.heap_setCell _ _ _ _ (by exact fun e => hbg e.symm)]; exact hg, hc⟩

theorem WrB.le {w w' : World} {B : Nat} {v : Value} {n : Nat} (h : WrB w B v n) (hb : Below w.heap.size w w') : WrB w' B v n := by
  obtain ⟨a, cap, rfl, h2⟩ := h
  refine ⟨a, cap, rfl, fun hn => ?_⟩
  obtain ⟨g, off, cur, rfl, hb', hg, hc⟩ := h2 hn
  exact ⟨g, off, cur, rfl, hb', blk_le hg hb, hc⟩

theorem WrB.grown {w w' : World} {B : Nat} {v : Value} {n : Nat} {row : Option Nat} (h : WrB w B v n) (hg : w.grownBy w' row) (hne : v.ownBlock = none ∨ v.ownBlock ≠ row) : WrB w' B v n := by
  obtain ⟨a, cap, rfl, h2⟩ := h
  refine ⟨a, cap, rfl, fun hn => ?_⟩
  obtain ⟨g, off, cur, rfl, hb', hgg, hc⟩ := h2 hn
  refine ⟨g, off, cur, rfl, hb', ?_, hc⟩
  rw [hg.block g (lt_of_block hgg) (by simpa [Value.ownBlock] using hne)]
  exact hgg

theorem WrB.take {w : World} {B : Nat} {a : Option Addr} {n cap m c : Nat} (h : WrB w B (.slice a n cap) n) (hm : m ≤ n) : WrB w B (.slice a m c) m := by
  obtain ⟨a', cap', hv, h2⟩ := h
  simp only [Value.slice.injEq] at hv
  obtain ⟨rfl, _, rfl⟩ := hv
  refine ⟨a, c, rfl, fun hn => ?_⟩
  obtain ⟨g, off, cur, rfl, hb', hg, hc⟩ := h2 (by omega)
  exact ⟨g, off, cur, rfl, hb', hg, fun i hi => hc i (by omega)⟩

theorem WrB.drop {w : World} {B : Nat} {a A : Option Addr} {n cap m C : Nat} (h : WrB w B (.slice a n cap) n) (hm : m ≤ n) (hs : A = none → n - m = 0) (hA : ∀ x, A = some x → ∃ y, a = some y ∧ x.block = y.block ∧ (m < n → x.spot = none ∧ x.off = y.off + m)) : WrB w B (.slice A (n - m) C) (n - m) := by
  obtain ⟨a', cap', hv, h2⟩ := h
  simp only [Value.slice.injEq] at hv
  obtain ⟨rfl, _, rfl⟩ := hv
  refine ⟨A, C, rfl, fun hn => ?_⟩
  have hmn : m < n := by omega
  obtain ⟨g, off, cur, rfl, hb', hg, hc⟩ := h2 (by omega)
  cases A with
  | none => exact absurd (hs rfl) hn
  | some x =>
    obtain ⟨b, o, sp⟩ := x
    obtain ⟨y, hy, h5, h6⟩ := hA _ rfl
    obtain rfl := Option.some.inj hy
    obtain ⟨h7, h8⟩ := h6 hmn
    simp only at h5 h7 h8
    subst h5 h7 h8
    exact ⟨b, _, cur, rfl, hb', hg, fun i hi => by rw [Nat.add_assoc]; exact hc _ (by omega)⟩

theorem WrB.mono {w : World} {B B' : Nat} {v : Value} {n : Nat} (h : WrB w B v n) (hb : B' ≤ B) : WrB w B' v n := by
  obtain ⟨a, cap, rfl, h2⟩ := h
  refine ⟨a, cap, rfl, fun hn => ?_⟩
  obtain ⟨g, off, cur, rfl, hb', hg, hc⟩ := h2 hn
  exact ⟨g, off, cur, rfl, by omega, hg, hc⟩


end Go.Proofs.Ytclhhnmafmicpaa
