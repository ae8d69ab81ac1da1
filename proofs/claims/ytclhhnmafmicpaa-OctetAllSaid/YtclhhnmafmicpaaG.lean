/- Walk: the layer wakes. Conditions: as each theorem states them. -/
import Derived.Test.YtclhhnmafmicpaaF
namespace Go.Proofs.Ytclhhnmafmicpaa
open Go.RowKit
set_option linter.unusedVariables false

set_option maxHeartbeats 1000000 in
theorem wakes_any (w : World) : Calls Try.prog 14 #[] w fun e w' => e = .returned (.bool true) ∧ Below w.heap.size w w' := by
  have e1 : giveR [1, 0, 42, 7] 0 ((1 : Nat) : Int) = ([0, 42, 7], 0, [1]) := by decide
  have e2 : giveR [0, 42, 7] 0 ((2 : Nat) : Int) = ([7], 0, [0, 42]) := by decide
  have e3 : giveR [7] 0 ((2 : Nat) : Int) = ([7], 7, []) := by decide
  have E1 := Lib.hid e1; have E2 := Lib.hid e2; have E3 := Lib.hid e3
  clear e1 e2 e3
  have HO := Lib.hid (Own.made EB w [1, 0, 42, 7] #[.int .u8 1, .int .u8 0, .int .u8 42, .int .u8 7] rfl (by simp [maxLen]) w.heap.size (Nat.le_refl _) 4 rfl)
  go_enter Try.func14, Try.ntmps14
  go_wp2_with fail
  refine (read_any [1, 0, 42, 7] _ _ HO.out.sl (by decide)).mono ?_
  rintro e w1 ⟨g, rfl, hr, hb⟩
  have HB := Lib.hid ((below_alloc w _).trans (hb.mono (by simp)))
  have HR := Lib.hid hr
  clear hr hb
  go_wp2_with fail
  have h1 := u8_any g _ _ _ _ HR.out (by decide)
  rw [E1.out] at h1
  refine h1.mono ?_
  clear h1
  rintro e w2 ⟨he, hr, hg⟩
  obtain rfl : e = .returned (.int .u8 1) := he
  have HR2 := Lib.hid hr; have HG2 := Lib.hid hg
  clear hr hg
  go_wp2_with fail
  have h1 := u16_any g _ _ _ _ HR2.out (by decide)
  rw [E2.out] at h1
  refine h1.mono ?_
  clear h1
  rintro e w3 ⟨he, hr, hg⟩
  obtain rfl : e = .returned (.int .u16 42) := he
  have HR3 := Lib.hid hr; have HG3 := Lib.hid hg
  clear hr hg
  go_wp2_with fail
  refine (rest_any g _ _ _ _ HR3.out (by decide)).mono ?_
  rintro e w4 ⟨v, rfl, ho, hb⟩
  obtain ⟨a, cap, hv, _, _, h3, h4⟩ := ho.sl.byte
  subst hv
  obtain ⟨b, off, rfl, hbl, hc⟩ := h4 0 (by simp)
  have hc0 := hc 0 (by simp)
  simp only [Nat.add_zero, List.getElem_cons_zero] at hc0
  have HO4 := Lib.hid ho; have HB4 := Lib.hid hb; have HR4 := Lib.hid (HR3.out.le hb)
  clear ho hb h3 h4 hc
  have hone : (([7] : List UInt8).length) = 1 := rfl
  go_wp2_with fail
  refine (left_any g _ _ _ _ HR4.out (by decide)).mono ?_
  rintro e w5 ⟨he, hb⟩
  obtain rfl : e = .returned (.int .i64 1) := he
  have HB5 := Lib.hid hb; have HR5 := Lib.hid (HR4.out.le hb)
  clear hb
  go_wp2_with fail
  have h1 := u16_any g _ _ _ _ HR5.out (by decide)
  rw [E3.out] at h1
  refine h1.mono ?_
  clear h1
  rintro e w6 ⟨he, hr, hg⟩
  obtain rfl : e = .returned (.int .u16 0) := he
  have HR6 := Lib.hid hr; have HG6 := Lib.hid hg
  clear hr hg
  go_wp2_with fail
  refine (err_any g _ _ _ _ HR6.out).mono ?_
  rintro e w7 ⟨he, rfl⟩
  obtain rfl : e = .returned (.int .i64 7) := he
  have HO7 := Lib.hid (Own.made EB w6 [1] #[.int .u8 1] rfl (by simp [maxLen]) w6.heap.size (Nat.le_refl _) 1 rfl)
  go_wp2_with fail
  refine (put16_any [1] _ _ _ HO7.out.sl (by decide) (by omega) (by omega)).mono ?_
  rintro e w8 ⟨v8, rfl, ho8, hb8⟩
  have HO8 := Lib.hid ho8; have HB8 := Lib.hid hb8
  clear ho8 hb8
  have HO9 := Lib.hid (Own.made EB w8 [1, 18, 52] #[.int .u8 1, .int .u8 18, .int .u8 52] rfl (by simp [maxLen]) w8.heap.size (Nat.le_refl _) 3 rfl)
  go_wp2_with fail
  refine (equal_any _ [1, 18, 52] _ _ _ (HO8.out.sl.le (below_alloc w8 _)) HO9.out.sl).mono ?_
  rintro e w9 ⟨he, rfl⟩
  obtain rfl : e = .returned (.bool true) := he
  go_wp2_with fail
  go_ret
  have hg : ∀ k, some g = some k → w.heap.size ≤ k := by
    obtain ⟨_, _, _, _, _, h, _⟩ := HR.out
    intro k hk
    have := Option.some.inj hk
    simp at h
    omega
  have b1 := HB.out
  have b2 := b1.trans (grown_below HG2.out b1.size hg)
  have b3 := b2.trans (grown_below HG3.out b2.size hg)
  have b4 := b3.trans (HB4.out.mono b3.size)
  have b5 := b4.trans (HB5.out.mono b4.size)
  have b6 := b5.trans (grown_below HG6.out b5.size hg)
  have b7 := b6.alloc b6.size (.cells #[.int .u8 1] 5)
  have b8 := b7.trans (HB8.out.mono b7.size)
  exact ⟨rfl, b8.alloc b8.size _⟩
end Go.Proofs.Ytclhhnmafmicpaa
