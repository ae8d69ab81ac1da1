/- Lemmas: bytes that may be written. Conditions: as each theorem states them. -/
import Derived.Test.YtclhhnmafmicpaaWWiden
namespace Go.Proofs.Ytclhhnmafmicpaa
open Go.RowKit
set_option linter.unusedVariables false

theorem Rd.set_got {w : World} {g : Nat} {B : Nat × Nat} {H : List UInt8} {R : Int} {A : Option Addr} {C : Nat} (hr : Rd w g B H R) (hm : w.heap[g]? = some (.cells #[.slice A H.length C, .int .i64 R] 72 (0, 0))) (b o : Nat) (hbg : b ≠ g)
    (hdis : ∀ x, A = some x → H ≠ [] → x.block = b → o < x.off) (c : UInt8) : Rd (w.setCell ⟨b, o, none⟩ (.int .u8 (c.toNat : Int))) g B H R := by
  obtain ⟨a, len, cap, h1, h2, h3, h4, h5⟩ := hr
  rw [h1] at hm
  simp only [Option.some.injEq, Obj.cells.injEq, Array.mk.injEq, List.cons.injEq, Value.slice.injEq, and_true] at hm
  obtain ⟨rfl, rfl, rfl⟩ := hm
  refine ⟨a, _, cap, ?_, ?_, h3, h4, h5.set _ _ _⟩
  · rw [Below.heap_setCell _ _ _ _ (by exact fun e => hbg e.symm)]; exact h1
  · obtain ⟨a', cap', hv, g1, g2, g3, g4⟩ := h2.ex
    simp only [Value.slice.injEq, true_and] at hv
    obtain ⟨rfl, rfl⟩ := hv
    refine ⟨a, cap, rfl, g1, g2, g3, fun x hx => ?_⟩
    obtain ⟨p, q, r⟩ := g4 x hx
    refine ⟨p, by simpa using q, fun i hi j u hu => ?_⟩
    have := r i hi j u hu
    by_cases hb : x.block = b
    · have ho := hdis x hx (by intro e; rw [e] at hi; simp at hi) hb
      rw [World.cell?_setCell_other _ _ _ _ (by intro e; simp only [Addr.mk.injEq] at e; omega)]
      exact this
    · rw [World.cell?_setCell_other _ _ _ _ (by intro e; simp only [Addr.mk.injEq] at e; omega)]
      exact this

theorem ne_of_kind {w : World} {b b' : Nat} {c c' : Array Value} {t t' : TypeId} (h : w.heap[b]? = some (.cells c t (0, 0))) (h' : w.heap[b']? = some (.cells c' t' (0, 0))) (ht : t ≠ t') : b ≠ b' := by
  rintro rfl
  rw [h] at h'
  simp only [Option.some.injEq, Obj.cells.injEq] at h'
  exact ht h'.2.1

/-- A store into a block of another kind. -/
theorem Rd.set_kind {w : World} {g : Nat} {B : Nat × Nat} {H : List UInt8} {R : Int} {b : Nat} {c : Array Value} {t : TypeId} (hr : Rd w g B H R) (hb : w.heap[b]? = some (.cells c t (0, 0))) (ht : t ≠ 5) (hbg : b ≠ g) (o : Nat) (u : Value) : Rd (w.setCell ⟨b, o, none⟩ u) g B H R := by
  obtain ⟨a, len, cap, h1, h2, h3, h4, h5⟩ := hr
  obtain ⟨a', cap', hv, g1, g2, g3, g4⟩ := h2.ex
  simp only [Value.slice.injEq] at hv
  obtain ⟨rfl, rfl, rfl⟩ := hv
  have key : H.length ≠ 0 → ∃ g0 off cur, a = some ⟨g0, off, none⟩ ∧ B.1 ≤ g0 ∧ w.heap[g0]? = some (.cells cur 5 (0, 0)) ∧ g0 ≠ b ∧ ∀ i, i < H.length → ∃ c : UInt8, cur[off + i]? = some (.int .u8 (c.toNat : Int)) := by
    intro hn
    obtain ⟨a2, cap2, hv2, hex⟩ := h5
    simp only [Value.slice.injEq, true_and] at hv2
    obtain ⟨rfl, rfl⟩ := hv2
    obtain ⟨g0, off, cur, ha, hB, hg, hc⟩ := hex hn
    exact ⟨g0, off, cur, ha, hB, hg, fun e => ne_of_kind hg hb (fun e => ht e.symm) e, hc⟩
  refine ⟨a, _, cap, ?_, ⟨a, cap, rfl, g1, g2, g3, fun x hx => ?_⟩, h3, h4, ⟨a, cap, rfl, fun hn => ?_⟩⟩
  · rw [Below.heap_setCell _ _ _ _ (by exact fun e => hbg e.symm)]; exact h1
  · obtain ⟨p, q, r⟩ := g4 x hx
    refine ⟨p, by simpa using q, fun i hi j v hv => ?_⟩
    obtain ⟨g0, off, cur, ha, _, _, hne, _⟩ := key (by omega)
    rw [ha] at hx
    obtain rfl := Option.some.inj hx
    rw [World.cell?_of_block (w := w) (Below.heap_setCell _ _ _ _ (by exact hne))]
    exact r i hi j v hv
  · obtain ⟨g0, off, cur, ha, hB, hg, hne, hc⟩ := key hn
    exact ⟨g0, off, cur, ha, hB, by rw [Below.heap_setCell _ _ _ _ (by exact hne)]; exact hg, hc⟩

theorem giveR_len (H : List UInt8) (R n : Int) : (giveR H R n).1.length ≤ H.length ∧ (giveR H R n).2.2.length ≤ H.length := by
  unfold giveR
  split
  · exact ⟨Nat.le_refl _, Nat.zero_le _⟩
  · split
    · exact ⟨Nat.le_refl _, Nat.zero_le _⟩
    · split
      · exact ⟨Nat.le_refl _, Nat.zero_le _⟩
      · simp only [List.length_drop, List.length_take]; omega

theorem giveR_le8 (H : List UInt8) (R n : Int) (h0 : 0 ≤ n) (h8 : n ≤ 8) : (giveR H R n).2.2.length ≤ 8 := by
  unfold giveR
  split
  · simp
  · split
    · simp
    · split
      · simp
      · simp only [List.length_take]; omega

theorem hi_mod (n : Nat) : ∀ x, hi (x % 256 ^ n) n = hi x n := by
  induction n with
  | zero => intro x; rfl
  | succ n ih =>
    intro x
    simp only [hi]
    have e1 : x % 256 ^ (n + 1) / 256 = x / 256 % 256 ^ n := by
      rw [Nat.pow_succ, Nat.mul_comm, Nat.mod_mul_right_div_self]
    have e2 : UInt8.ofNat (x % 256 ^ (n + 1)) = UInt8.ofNat x := by
      apply UInt8.toNat_inj.1
      rw [UInt8.toNat_ofNat', UInt8.toNat_ofNat', Nat.pow_succ, Nat.mul_comm]
      exact Nat.mod_mul_right_mod x 256 _
    rw [e1, e2, ih]
end Go.Proofs.Ytclhhnmafmicpaa
