/- Numbers as bytes, the highest first: plain facts. -/
import Derived.Test.YtmkncbddjnaklaaMC
import Derived.Laws.Bits64b
namespace Go.Proofs.Ytmkncbddjnaklaa
open Go.RowKit
set_option linter.all false

def beB : Nat → Int → List Int
  | 0, _ => []
  | n + 1, x => beB n (x / 256) ++ [x % 256]
theorem beB_len (n : Nat) : ∀ x, (beB n x).length = n := by
  induction n with
  | zero => intro x; rfl
  | succ n ih => intro x; simp [beB, ih]
theorem beB_octs (n : Nat) : ∀ x, octs (beB n x) := by
  induction n with
  | zero => intro x; exact octs.nil
  | succ n ih => intro x; exact (ih _).append (fun y hy => by simp at hy; omega)
theorem beB_get (n : Nat) : ∀ (x : Int) (k : Nat), 0 ≤ x → k < n → (beB n x)[k]? = some (x / 2 ^ (8 * n - 8 * (k + 1)) % 256) := by
  induction n with
  | zero => intro x k _ h; omega
  | succ n ih =>
    intro x k h0 hk
    simp only [beB]
    by_cases h : k < n
    · rw [List.getElem?_append_left (by rw [beB_len]; exact h), ih _ _ (by omega) h]
      rw [Int.ediv_ediv_of_nonneg (by omega), show (256 : Int) = 2 ^ 8 from rfl, ← Int.pow_add]
      congr 4; omega
    · obtain rfl : k = n := by omega
      rw [List.getElem?_append_right (by rw [beB_len]; exact Nat.le_refl _), beB_len]
      simp
def numB (l : List Int) : Int := l.foldl (fun x c => x * 256 + c) 0
theorem numB_snoc (l : List Int) (c : Int) : numB (l ++ [c]) = numB l * 256 + c := by simp [numB, List.foldl_append]
theorem numB_go (l : List Int) : ∀ x : Int, l.foldl (fun x c => x * 256 + c) x = x * 256 ^ l.length + numB l := by
  induction l with
  | nil => intro x; simp [numB]
  | cons c l ih =>
    intro x
    simp only [numB, List.foldl_cons, List.length_cons]
    rw [ih, ih (0 * 256 + c), Int.pow_succ]
    rw [Int.add_mul, Int.zero_mul, Int.zero_add, Int.mul_assoc, Int.mul_comm 256, Int.add_assoc]
theorem numB_cons (c : Int) (l : List Int) : numB (c :: l) = c * 256 ^ l.length + numB l := by
  have := numB_go l (0 * 256 + c)
  rw [Int.zero_mul, Int.zero_add] at this
  simpa [numB] using this
theorem pow256 (n : Nat) : 0 < (256 : Int) ^ n := Int.pow_pos (by omega)
theorem numB_bd (l : List Int) (h : octs l) : 0 ≤ numB l ∧ numB l < 256 ^ l.length := by
  induction l with
  | nil => simp [numB]
  | cons c l ih =>
    obtain ⟨h1, h2⟩ := ih (fun x hx => h x (List.mem_cons_of_mem _ hx))
    obtain ⟨c1, c2⟩ := h c (by simp)
    have hp := pow256 l.length
    rw [numB_cons, List.length_cons, Int.pow_succ]
    have h3 : 0 ≤ c * 256 ^ l.length := Int.mul_nonneg c1 (by omega)
    have h4 : c * 256 ^ l.length ≤ 255 * 256 ^ l.length := Int.mul_le_mul_of_nonneg_right (by omega) (by omega)
    omega
theorem numB_beB (n : Nat) : ∀ x : Int, 0 ≤ x → numB (beB n x) = x % 256 ^ n := by
  induction n with
  | zero => intro x _; simp [beB, numB]
  | succ n ih =>
    intro x hx
    rw [beB, numB_snoc, ih _ (by omega), Int.pow_succ]
    have hp := pow256 n
    have h1 := Int.emod_add_mul_ediv x 256
    have h2 := Int.emod_add_mul_ediv (x / 256) (256 ^ n)
    have h3 := Int.emod_nonneg (x / 256) (b := 256 ^ n) (by omega)
    have h4 := Int.emod_lt_of_pos (x / 256) hp
    have h5 : x = (x / 256 % 256 ^ n * 256 + x % 256) + (256 ^ n * 256) * (x / 256 / 256 ^ n) := by
      have e : (256 : Int) ^ n * 256 * (x / 256 / 256 ^ n) = (256 ^ n * (x / 256 / 256 ^ n)) * 256 := by
        rw [Int.mul_assoc, Int.mul_comm 256, ← Int.mul_assoc]
      rw [e]
      generalize (256 : Int) ^ n * (x / 256 / 256 ^ n) = d at *
      generalize x / 256 % 256 ^ n = a at *
      omega
    have h6 : x % (256 ^ n * 256) = (x / 256 % 256 ^ n * 256 + x % 256) % (256 ^ n * 256) := by
      conv => lhs; rw [h5]
      rw [Int.add_mul_emod_self_left]
    rw [h6]
    generalize x / 256 % 256 ^ n = a at *
    generalize (256 : Int) ^ n = p at *
    exact (Int.emod_eq_of_lt (by omega) (by omega)).symm
theorem list_snoc {α : Type} : ∀ (l : List α), l ≠ [] → ∃ a c, l = a ++ [c] := fun l h => ⟨l.dropLast, l.getLast h, (List.dropLast_concat_getLast h).symm⟩
theorem beB_numB : ∀ (n : Nat) (l : List Int), l.length = n → octs l → beB n (numB l) = l := by
  intro n
  induction n with
  | zero => intro l h _; rw [List.length_eq_zero_iff] at h; subst h; rfl
  | succ n ih =>
    intro l h ho
    obtain ⟨a, c, rfl⟩ := list_snoc l (by rintro rfl; simp at h)
    have hc := ho c (by simp)
    rw [beB, numB_snoc]
    have e1 : (numB a * 256 + c) / 256 = numB a := by omega
    have e2 : (numB a * 256 + c) % 256 = c := by omega
    rw [e1, e2, ih a (by simpa using h) (fun x hx => ho x (by simp [hx]))]
theorem cpow (a n : Nat) : ((a ^ n : Nat) : Int) = (a : Int) ^ n := Int.natCast_pow a n
theorem ipow_le (a : Nat) (ha : 0 < a) {i j : Nat} (h : i ≤ j) : (a : Int) ^ i ≤ (a : Int) ^ j := by
  rw [← cpow, ← cpow]; exact Int.ofNat_le.2 (Nat.pow_le_pow_right ha h)
theorem pow2_64 {i : Nat} (hi : i ≤ 64) : (2 : Int) ^ i ≤ 18446744073709551616 := by
  have h := ipow_le 2 (by decide) hi
  have e : ((2 : Nat) : Int) ^ 64 = 18446744073709551616 := by decide
  rw [e] at h; exact h
theorem or_low (x y : Int) (i : Nat) (hx0 : 0 ≤ x) (hx : x < 2 ^ i) (hy0 : 0 ≤ y) (hy : y * 2 ^ i < 18446744073709551616) (hi : i ≤ 64) : bits .or .u64 x (y * 2 ^ i) = x + y * 2 ^ i := by
  obtain ⟨a, rfl⟩ := Int.eq_ofNat_of_zero_le hx0
  obtain ⟨b, rfl⟩ := Int.eq_ofNat_of_zero_le hy0
  have h2 := pow2_64 hi
  have ep : (2 : Int) ^ i = ((2 ^ i : Nat) : Int) := (cpow 2 i).symm
  have e : (b : Int) * 2 ^ i = ((b * 2 ^ i : Nat) : Int) := by rw [ep, Int.natCast_mul]
  rw [e] at hy ⊢
  rw [ep] at hx h2
  rw [bits_or_u64_nat a (b * 2 ^ i) (by omega) (by omega), Nat.or_comm, Nat.mul_comm b, ← Nat.two_pow_add_eq_or_of_lt (by omega), Nat.add_comm, Int.natCast_add]
theorem or_high (x y : Int) (hx0 : 0 ≤ x) (hx : x < 72057594037927936) (hy : 0 ≤ y ∧ y < 256) : bits .or .u64 (x * 256) y = x * 256 + y := by
  obtain ⟨a, rfl⟩ := Int.eq_ofNat_of_zero_le hx0
  obtain ⟨b, rfl⟩ := Int.eq_ofNat_of_zero_le hy.1
  have e : (a : Int) * 256 = ((2 ^ 8 * a : Nat) : Int) := by omega
  rw [e, bits_or_u64_nat (2 ^ 8 * a) b (by omega) (by omega), ← Nat.two_pow_add_eq_or_of_lt (by omega), Int.natCast_add]
theorem and255 (x : Int) (h0 : 0 ≤ x) (h1 : x ≤ 18446744073709551615) : bits .and .u64 x 255 = x % 256 := by
  have h := bits_and_u64_nat x.toNat 255 (by omega) (by omega)
  rw [show (255 : Nat) = 2 ^ 8 - 1 from rfl, Nat.and_two_pow_sub_one_eq_mod, Int.toNat_of_nonneg h0] at h
  have h2 : ((x.toNat % 2 ^ 8 : Nat) : Int) = x % 256 := by omega
  exact h.trans h2
/-- 'x << 8 | c' -/
theorem num_step {l : List Int} {k : Nat} {c : Int} (hc : l[k]? = some c) (ho : octs l) (hl : l.length ≤ 8) :
    bits .or .u64 (IntKind.u64.wrap (numB (l.take k) * 2 ^ 8)) c = numB (l.take (k + 1)) := by
  obtain ⟨hk, rfl⟩ := List.getElem?_eq_some_iff.1 hc
  obtain ⟨h1, h2⟩ := numB_bd (l.take k) (ho.take k)
  have hlen : (l.take k).length = k := by rw [List.length_take]; omega
  rw [hlen] at h2
  have h3 : (256 : Int) ^ k ≤ 256 ^ 7 := ipow_le 256 (by decide) (by omega)
  have h4 : (256 : Int) ^ 7 = 72057594037927936 := by decide
  rw [List.take_succ_eq_append_getElem hk, numB_snoc, wrap_u64 (by omega) (by omega), show (2 : Int) ^ 8 = 256 from rfl, or_high _ _ h1 (by omega) (ho _ (List.getElem_mem hk))]
/-- 'x |= c << 8 k' from the lowest on -/
theorem bit_step {l : List Int} {k : Nat} {c : Int} (hk : k < l.length) (hc : l[l.length - 1 - k]? = some c) (ho : octs l) (hl : l.length ≤ 8) :
    bits .or .u64 (numB (l.drop (l.length - k))) (IntKind.u64.wrap (c * 2 ^ (8 * k))) = numB (l.drop (l.length - (k + 1))) := by
  have hoc := ho c (List.mem_of_getElem? hc)
  obtain ⟨hk2, rfl⟩ := List.getElem?_eq_some_iff.1 hc
  have hd : l.drop (l.length - (k + 1)) = l[l.length - 1 - k] :: l.drop (l.length - k) := by
    rw [List.drop_eq_getElem_cons (by omega)]
    congr 1
    · congr 1; omega
    · congr 1; omega
  obtain ⟨h1, h2⟩ := numB_bd (l.drop (l.length - k)) (ho.drop _)
  have hlen : (l.drop (l.length - k)).length = k := by rw [List.length_drop]; omega
  have e : (256 : Int) ^ k = 2 ^ (8 * k) := by rw [show (256 : Int) = 2 ^ 8 from rfl, ← Int.pow_mul]
  rw [hlen, e] at h2
  rw [hd, numB_cons, hlen, e]
  generalize l[l.length - 1 - k] = c at *
  have hp : (2 : Int) ^ (8 * k) ≤ 2 ^ 56 := ipow_le 2 (by decide) (by omega)
  have hp0 : 0 < (2 : Int) ^ (8 * k) := Int.pow_pos (by omega)
  have h5 : c * 2 ^ (8 * k) ≤ 255 * 2 ^ (8 * k) := Int.mul_le_mul_of_nonneg_right (by omega) (by omega)
  have h6 : 0 ≤ c * 2 ^ (8 * k) := Int.mul_nonneg hoc.1 (by omega)
  have e56 : (2 : Int) ^ 56 = 72057594037927936 := by decide
  rw [wrap_u64 (by omega) (by omega), or_low _ _ _ h1 h2 hoc.1 (by omega) (by omega), Int.add_comm]
end Go.Proofs.Ytmkncbddjnaklaa
