/- Walk of the law OctetWiden. Conditions: as each theorem states them. -/
import Derived.Test.YtclhhnmafmicpaaG
namespace Go.Proofs.Ytclhhnmafmicpaa
open Go.RowKit
set_option linter.unusedVariables false

theorem hi_noughts (n m : Nat) : ∀ x, x < 256 ^ m → hi x (n + m) = List.replicate n 0 ++ hi x m := by
  induction m with
  | zero =>
    intro x hx
    obtain rfl : x = 0 := by simpa using hx
    induction n with
    | zero => rfl
    | succ n ih =>
      show hi (0 / 256) n ++ [UInt8.ofNat 0] = _
      rw [show 0 / 256 = 0 from rfl]
      have : hi 0 n = List.replicate n 0 := by simpa [hi] using ih
      rw [this, List.replicate_succ']
      simp [hi]
  | succ m ih =>
    intro x hx
    show hi (x / 256) (n + m) ++ [UInt8.ofNat x] = _
    rw [ih (x / 256) (by rw [Nat.pow_succ] at hx; omega)]
    simp [hi]

theorem ret_true {e : Ending} {b : Prop} [Decidable b] (h : e = .returned (.bool (decide b))) (hb : b) : e = .returned (.bool true) := by rw [h, decide_eq_true hb]

set_option maxHeartbeats 1000000 in
theorem widen_walk (x : Int) (h0 : 0 ≤ x) (h1 : x ≤ 18446744073709551615) (w : World) : Calls Try.prog 4 #[.int .u64 x] w fun e w' => e = .returned (.bool true) ∧ Below w.heap.size w w' := by
  obtain ⟨y, hy⟩ : ∃ y, IntKind.u16.wrap x = y := ⟨_, rfl⟩
  obtain ⟨z, hz⟩ : ∃ z, IntKind.u32.wrap x = z := ⟨_, rfl⟩
  have hy' := hy
  have hz' := hz
  rw [IntKind.wrap_u16] at hy'
  rw [IntKind.wrap_u32] at hz'
  have hy0 : 0 ≤ y ∧ y ≤ 65535 := by omega
  have hz0 : 0 ≤ z ∧ z ≤ 4294967295 := by omega
  obtain ⟨hy0, hy1⟩ := hy0
  obtain ⟨hz0, hz1⟩ := hz0
  have P1 := Lib.hid (hi_noughts 2 2 y.toNat (by omega))
  have P2 := Lib.hid (hi_noughts 4 4 y.toNat (by omega))
  have P3 := Lib.hid (hi_noughts 4 4 z.toNat (by omega))
  clear hy' hz'
  go_enter Try.func4, Try.ntmps4
  go_wp2_with fail
  refine (wakes_any _).mono ?_
  rintro e w1 ⟨rfl, hb⟩
  have B1 := Lib.hid hb; clear hb
  go_wp2_with fail
  refine (put16_any [] _ _ _ (Sl.nil _ _) (by simp) (by omega) (by omega)).mono ?_
  rintro e w2 ⟨v2, rfl, ho, hb⟩
  have O2 := Lib.hid ho; have B2 := Lib.hid (B1.out.trans (hb.mono B1.out.size)); have C2 := Lib.hid hb; clear hb ho
  go_wp2_with fail
  refine (put32_any [] _ _ _ (Sl.nil _ _) (by simp) (by omega) (by omega)).mono ?_
  rintro e w3 ⟨v3, rfl, ho, hb⟩
  have O3 := Lib.hid ho; have B3 := Lib.hid (B2.out.trans (hb.mono B2.out.size)); have C3 := Lib.hid hb; clear hb ho
  go_wp2_with fail
  refine (put64_any [] _ _ _ (Sl.nil _ _) (by simp) (by omega) (by omega)).mono ?_
  rintro e w4 ⟨v4, rfl, ho, hb⟩
  have O4 := Lib.hid ho; have B4 := Lib.hid (B3.out.trans (hb.mono B3.out.size)); have C4 := Lib.hid hb; clear hb ho
  go_wp2_with fail
  refine (put64_any [] _ _ _ (Sl.nil _ _) (by simp) (by omega) (by omega)).mono ?_
  rintro e w5 ⟨v5, rfl, ho, hb⟩
  have O5 := Lib.hid ho; have B5 := Lib.hid (B4.out.trans (hb.mono B4.out.size)); have C5 := Lib.hid hb; clear hb ho
  have M5 := Lib.hid (Own.made EB w5 [0, 0] #[.int .u8 0, .int .u8 0] rfl (by simp [maxLen]) w5.heap.size (Nat.le_refl _) 2 rfl)
  have D35 := Lib.hid (bt C4.out C5.out)
  have D25 := Lib.hid (bt C3.out D35.out)
  have A5 := Lib.hid (below_alloc w5 (.cells #[.int .u8 0, .int .u8 0] 5))
  have S2 := Lib.hid (O2.out.sl.le (bt D25.out A5.out))
  go_wp2_with (at_builtin; go_must (refine wpl_app eB M5.out S2.out rfl rfl Try.underlying22 rfl rfl (by simp [maxLen, hi_len]) (by simp [encB, hi_len]) (by simp) ?_; intro v6 w6 hown6 hb6 hg6; have O6 := Lib.hid hown6; have B6 := Lib.hid (A5.out.trans hb6); clear hown6 hb6 hg6))
  refine (bequal_any _ _ _ _ _ (O3.out.sl.le (bt D35.out B6.out)) O6.out.sl).mono ?_
  rintro e w' ⟨he, rfl⟩
  obtain rfl := ret_true he (by rw [List.nil_append, List.nil_append, P1.out]; rfl)
  clear he
  have M6 := Lib.hid (Own.made EB w6 [0, 0, 0, 0] #[.int .u8 0, .int .u8 0, .int .u8 0, .int .u8 0] rfl (by simp [maxLen]) w6.heap.size (Nat.le_refl _) 4 rfl)
  have A6 := Lib.hid (below_alloc w6 (.cells #[.int .u8 0, .int .u8 0, .int .u8 0, .int .u8 0] 5))
  have D36 := Lib.hid (bt D35.out B6.out)
  have S3 := Lib.hid (O3.out.sl.le (bt D36.out A6.out))
  go_wp2_with (at_builtin; go_must (refine wpl_guard rfl ?_; refine wpl_app eB M6.out S3.out rfl rfl Try.underlying22 rfl rfl (by simp [maxLen, hi_len]) (by simp [encB, hi_len]) (by simp) ?_; intro v7 w7 hown6 hb6 hg6; have O7 := Lib.hid hown6; have B7 := Lib.hid (A6.out.trans hb6); clear hown6 hb6 hg6))
  refine (bequal_any _ _ _ _ _ (O4.out.sl.le (bt C5.out (bt B6.out B7.out))) O7.out.sl).mono ?_
  rintro e w' ⟨he, rfl⟩
  obtain rfl := ret_true he (by rw [List.nil_append, List.nil_append, P2.out]; rfl)
  clear he
  have M7 := Lib.hid (Own.made EB w7 [0, 0, 0, 0] #[.int .u8 0, .int .u8 0, .int .u8 0, .int .u8 0] rfl (by simp [maxLen]) w7.heap.size (Nat.le_refl _) 4 rfl)
  have A7 := Lib.hid (below_alloc w7 (.cells #[.int .u8 0, .int .u8 0, .int .u8 0, .int .u8 0] 5))
  go_wp2_with fail
  refine (put32_any [] _ _ _ (Sl.nil _ _) (by simp) (by omega) (by omega)).mono ?_
  rintro e w8 ⟨v8, rfl, ho, hb⟩
  have O8 := Lib.hid ho; have B8 := Lib.hid (bt A7.out hb); have M8 := Lib.hid (M7.out.le hb); clear hb ho
  have hs8 : w7.heap.size ≤ w8.heap.size := B8.out.size
  go_wp2_with (at_builtin; go_must (refine wpl_guard rfl ?_; refine wpl_app eB M8.out O8.out.sl rfl rfl Try.underlying22 rfl rfl (by simp [maxLen, hi_len]) (by simp [encB, hi_len]) hs8 ?_; intro v9 w9 hown6 hb6 hg6; have O9 := Lib.hid hown6; have B9 := Lib.hid (B8.out.trans hb6); clear hown6 hb6 hg6))
  refine (bequal_any _ _ _ _ _ (O5.out.sl.le (bt B6.out (bt B7.out B9.out))) O9.out.sl).mono ?_
  rintro e w' ⟨he, rfl⟩
  obtain rfl := ret_true he (by rw [List.nil_append, List.nil_append, P3.out]; rfl)
  go_wp2_with fail
  go_ret
  exact ⟨rfl, bt B5.out (bt B6.out (bt B7.out B9.out))⟩
end Go.Proofs.Ytclhhnmafmicpaa
