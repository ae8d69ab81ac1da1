/- Walk of the law OctetCasts. Conditions: as each theorem states them. -/
import Derived.Test.YtclhhnmafmicpaaWWiden
namespace Go.Proofs.Ytclhhnmafmicpaa
open Go.RowKit
set_option linter.unusedVariables false

def sumB (l : List UInt8) : Nat := (l.map UInt8.toNat).sum
theorem sumB_snoc (l : List UInt8) (c : UInt8) : sumB (l ++ [c]) = sumB l + c.toNat := by simp [sumB]
theorem sumB_le (l : List UInt8) : sumB l ≤ 255 * l.length := by
  unfold sumB
  induction l with
  | nil => simp
  | cons c l ih => have := c.toNat_lt; simp only [List.map_cons, List.sum_cons, List.length_cons]; omega
theorem sumB_hi (n : Nat) : ∀ x, x < 256 ^ n → sumB (hi x n) % 255 = x % 255 := by
  induction n with
  | zero => intro x hx; obtain rfl : x = 0 := by simpa using hx
            rfl
  | succ n ih =>
    intro x hx
    rw [hi, sumB_snoc, Nat.add_mod, ih (x / 256) (by rw [Nat.pow_succ] at hx; omega), UInt8.toNat_ofNat']
    omega

set_option maxHeartbeats 400000 in
theorem all_any (l : List UInt8) (v : Value) (w : World) (hB : Sl EB w v l) (hl : l.length ≤ 10000000) :
   Calls Try.prog 23 #[v] w fun e w' => e = .returned (.int .u64 ((sumB l % 255 : Nat) : Int)) ∧ w = w' := by
  obtain ⟨aa, ca, rfl, a1, a2, a3, a4⟩ := hB.byte
  have HA := Lib.hid a4
  clear a3 a4 hB
  go_enter Try.func23, Try.ntmps23
  go_wp2_with fail
  go_loop [3, 8] (fun n i => ∃ k : Nat, k ≤ l.length ∧ i = .int .i64 k ∧ n = .int .u64 (sumB (l.take k) : Nat)) (fun _ i => l.length - (intOf i).toNat)
  case atStart => exact ⟨0, Nat.zero_le _, rfl, rfl⟩
  case round =>
    obtain ⟨k, hk, rfl, rfl⟩ := hrel
    by_cases hlt : k < l.length
    · obtain ⟨bb, oo, rfl, hbl, hc⟩ := HA.out k hlt
      have hc1 := hc k hlt
      have HT := Lib.hid (take_snoc l k hlt)
      have hs := sumB_le (l.take k)
      have hl1 : (l.take k).length ≤ k := by simp; omega
      have hlt2 : l[k].toNat < 256 := l[k].toNat_lt
      have HQ := Lib.hid (show (sumB (l.take k) : Int) + (l[k].toNat : Int) = ((sumB (l.take k ++ [l[k]]) : Nat) : Int) by rw [sumB_snoc]; omega)
      generalize hS : sumB (l.take k) = S at *
      have HS := Lib.hid hS
      clear hc HA hS
      go_wp2_with fail
      go_round
      case rel => exact ⟨k + 1, hlt, by go_num, by rw [HT.out, ← HQ.out]⟩
      case measure => simp [intOf]; omega
    · obtain rfl : k = l.length := by omega
      have hs := sumB_le l
      go_wp2_with fail
      go_ret
      exact ⟨rfl, rfl⟩

theorem byte_len_ok (n : Nat) (x : Nat) : (hi x n).length ≤ 10000000 ↔ n ≤ 10000000 := by rw [hi_len]

set_option maxHeartbeats 1000000 in
theorem casts_walk (x : Int) (h0 : 0 ≤ x) (h1 : x ≤ 18446744073709551615) (w : World) : Calls Try.prog 5 #[.int .u64 x] w fun e w' => e = .returned (.bool true) ∧ Below w.heap.size w w' := by
  obtain ⟨y, hy⟩ : ∃ y, IntKind.u16.wrap x = y := ⟨_, rfl⟩
  obtain ⟨z, hz⟩ : ∃ z, IntKind.u32.wrap x = z := ⟨_, rfl⟩
  have hy' := hy
  have hz' := hz
  rw [IntKind.wrap_u16] at hy'
  rw [IntKind.wrap_u32] at hz'
  have hy0 : 0 ≤ y ∧ y ≤ 65535 := by omega
  have hz0 : 0 ≤ z ∧ z ≤ 4294967295 := by omega
  obtain ⟨hy0, hy1⟩ := hy0
  obtain ⟨hz0, hz1⟩ := hz0
  have P1 := Lib.hid (show ((sumB (hi x.toNat 8) % 255 : Nat) : Int) = x % 255 by rw [sumB_hi 8 x.toNat (by omega)]; omega)
  have P2 := Lib.hid (show ((sumB (hi z.toNat 4) % 255 : Nat) : Int) = z % 255 by rw [sumB_hi 4 z.toNat (by omega)]; omega)
  have P3 := Lib.hid (show ((sumB (hi y.toNat 2) % 255 : Nat) : Int) = y % 255 by rw [sumB_hi 2 y.toNat (by omega)]; omega)
  clear hy' hz'
  go_enter Try.func5, Try.ntmps5
  go_wp2_with fail
  refine (wakes_any _).mono ?_
  rintro e w1 ⟨rfl, hb⟩
  have B1 := Lib.hid hb; clear hb
  go_wp2_with fail
  refine (put64_any [] _ _ _ (Sl.nil _ _) (by simp) (by omega) (by omega)).mono ?_
  rintro e w2 ⟨v2, rfl, ho, hb⟩
  have O2 := Lib.hid ho; have B2 := Lib.hid (bt B1.out hb); clear hb ho
  go_wp2_with fail
  refine (all_any _ _ _ O2.out.sl (by simp [hi_len])).mono ?_
  rintro e w' ⟨he, rfl⟩
  rw [List.nil_append, P1.out] at he
  subst he
  go_wp2_with fail
  refine (put32_any [] _ _ _ (Sl.nil _ _) (by simp) (by omega) (by omega)).mono ?_
  rintro e w3 ⟨v3, rfl, ho, hb⟩
  have O3 := Lib.hid ho; have B3 := Lib.hid (bt B2.out hb); clear hb ho
  go_wp2_with fail
  refine (all_any _ _ _ O3.out.sl (by simp [hi_len])).mono ?_
  rintro e w' ⟨he, rfl⟩
  rw [List.nil_append, P2.out] at he
  subst he
  go_wp2_with fail
  refine (put16_any [] _ _ _ (Sl.nil _ _) (by simp) (by omega) (by omega)).mono ?_
  rintro e w4 ⟨v4, rfl, ho, hb⟩
  have O4 := Lib.hid ho; have B4 := Lib.hid (bt B3.out hb); clear hb ho
  go_wp2_with fail
  refine (all_any _ _ _ O4.out.sl (by simp [hi_len])).mono ?_
  rintro e w' ⟨he, rfl⟩
  rw [List.nil_append, P3.out] at he
  subst he
  go_wp2_with fail
  refine (put64_any [] _ _ _ (Sl.nil _ _) (by simp) (by omega) (by omega)).mono ?_
  rintro e w5 ⟨v5, rfl, ho, hb⟩
  have B5 := Lib.hid (bt B4.out hb); clear hb
  obtain ⟨a5, c5, hv5, _⟩ := ho.sl.ex
  rw [List.nil_append, hi_len] at hv5
  subst hv5
  clear ho
  go_wp2_with fail
  go_ret
  exact ⟨rfl, B5.out⟩
end Go.Proofs.Ytclhhnmafmicpaa
