/- What is wanted of a reader, as an argument; numbers and their bytes. Conditions: as each theorem states them. -/
import Derived.Test.YtclhhnmafmicpaaH
import Derived.Test.YtclhhnmafmicpaaO
namespace Go.Proofs.Ytclhhnmafmicpaa
open Go.ChangeShapes Go.WideShapes Go.ChangeAt Go.RowKit
set_option linter.unusedVariables false

theorem numB_snoc (l : List UInt8) (c : UInt8) : numB (l ++ [c]) = numB l * 256 + c.toNat := by simp [numB, List.foldl_append]

theorem numB_hi (n : Nat) : ∀ x, numB (hi x n) = x % 256 ^ n := by
  induction n with
  | zero => intro x; simp [hi, numB, Nat.mod_one]
  | succ n ih =>
    intro x
    have hp : (256 : Nat) ^ (n + 1) = 256 * 256 ^ n := by rw [Nat.pow_succ, Nat.mul_comm]
    rw [hi, numB_snoc, ih, UInt8.toNat_ofNat', hp, Nat.mod_mul]
    omega

theorem hi_numB : ∀ (n : Nat) (t : List UInt8), t.length = n → hi (numB t) n = t := by
  intro n
  induction n with
  | zero => intro t h; rw [List.eq_nil_of_length_eq_zero h]; rfl
  | succ n ih =>
    intro t h
    rcases List.eq_nil_or_concat t with rfl | ⟨m, c, rfl⟩
    · simp at h
    · rw [List.concat_eq_append] at h ⊢
      have hm : m.length = n := by simpa using h
      have hc := c.toNat_lt
      have e1 : (numB m * 256 + c.toNat) / 256 = numB m := by omega
      rw [hi, numB_snoc, e1, ih m hm]
      congr 2
      apply UInt8.toNat_inj.1
      rw [UInt8.toNat_ofNat']; omega

theorem ret_false {e : Ending} {b : Prop} [Decidable b] (h : e = .returned (.bool (decide b))) (hb : ¬ b) : e = .returned (.bool false) := by rw [h, decide_eq_false hb]

theorem rd_base {w : World} {g : Nat} {B : Nat × Nat} {H : List UInt8} {r : Int} (h : Rd w g B H r) : ∀ k, some g = some k → B.1 ≤ k := by
  obtain ⟨_, _, _, _, _, h, _⟩ := h
  intro k hk
  have := Option.some.inj hk
  omega

/-- what is wanted of a reader -/
structure WantD where
  kind : Int
  n : Int

def WantD.ok (x : WantD) : Prop := (-9223372036854775808 ≤ x.kind ∧ x.kind ≤ 9223372036854775807) ∧ (-9223372036854775808 ≤ x.n ∧ x.n ≤ 9223372036854775807)

def encW : Enc WantD := { f := fun x => [.int .i64 x.kind, .int .i64 x.n], sz := 2, e := 44, bytes := 16, len := fun _ => rfl, one := by (intro x u hu; simp at hu; rcases hu with rfl | rfl <;> rfl), pos := by omega }

theorem Sl.want {w : World} {v : Value} {l : List WantD} (h : Sl encW w v l) : ∃ a cap, v = .slice a l.length cap ∧ l.length ≤ cap ∧ cap ≤ maxLen ∧
    (∀ k (hk : k < l.length), ∃ b off, a = some ⟨b, off, none⟩ ∧ b < w.heap.size ∧ w.cell? ⟨b, off + k * 2, none⟩ = some (.int .i64 l[k].kind) ∧ w.cell? ⟨b, off + k * 2 + 1, none⟩ = some (.int .i64 l[k].n)) := by
  obtain ⟨a, cap, rfl, h1, h2, h3, h4⟩ := h.ex
  refine ⟨a, cap, rfl, h1, h2, fun k hk => ?_⟩
  cases a with
  | none => have := h3 rfl; omega
  | some x =>
    obtain ⟨p, q, r⟩ := h4 x rfl
    obtain ⟨b, off, sp⟩ := x
    simp only at p q r
    subst p
    exact ⟨b, off, rfl, q, r k hk 0 _ rfl, r k hk 1 _ rfl⟩

theorem cells44 : Try.prog.cellsOf 44 = 2 := by kernel_rfl
theorem cells3 : Try.prog.cellsOf 3 = 1 := by kernel_rfl

theorem encW_reads : encW.Reads Try.prog WantD.ok := by
  intro H enc w base spare held fuel cs y h
  obtain ⟨y0, y1, n, _, hl, h0, h1⟩ := trod_struct2 (t := 44) Try.underlying44 h
  obtain ⟨a, e0, _, wa⟩ := DataW.trod_int Try.underlying3 h0
  obtain ⟨c, e1, _, wc⟩ := DataW.trod_int Try.underlying3 h1
  rw [cells44] at hl
  rw [cells3] at e0 e1
  match cs, hl with
  | [c0, c1], _ =>
    simp at e0 e1
    subst e0 e1
    exact ⟨⟨a, c⟩, rfl, bounds_i64 wa, bounds_i64 wc⟩
end Go.Proofs.Ytclhhnmafmicpaa
