/- Walk of the law OctetNobody. Conditions: as each theorem states them. -/
import Derived.Test.YtclhhnmafmicpaaG
namespace Go.Proofs.Ytclhhnmafmicpaa
open Go.RowKit
set_option linter.unusedVariables false

set_option maxHeartbeats 1000000 in
theorem nobody_walk (n : Int) (h0 : -9223372036854775808 ≤ n) (h1 : n ≤ 9223372036854775807) (w : World) : Calls Try.prog 7 #[.int .i64 n] w fun e w' => e = .returned (.bool true) ∧ Below w.heap.size w w' := by
  go_enter Try.func7, Try.ntmps7
  go_wp2_with fail
  refine (wakes_any _).mono ?_
  rintro e w1 ⟨rfl, hb⟩
  have B1 := Lib.hid hb; clear hb
  go_wp2_with fail
  refine (u8_nil _).mono ?_
  rintro e w2 ⟨rfl, hb⟩
  have B2 := Lib.hid (bt B1.out hb); clear hb
  go_wp2_with fail
  refine (u16_nil _).mono ?_
  rintro e w3 ⟨rfl, hb⟩
  have B3 := Lib.hid (bt B2.out hb); clear hb
  go_wp2_with fail
  refine (u32_nil _).mono ?_
  rintro e w4 ⟨rfl, hb⟩
  have B4 := Lib.hid (bt B3.out hb); clear hb
  go_wp2_with fail
  refine (u64_nil _).mono ?_
  rintro e w5 ⟨rfl, hb⟩
  have B5 := Lib.hid (bt B4.out hb); clear hb
  go_wp2_with fail
  refine (raw_nil _ _).mono ?_
  rintro e w6 ⟨rfl, hb⟩
  have B6 := Lib.hid (bt B5.out hb); clear hb
  go_wp2_with fail
  refine (left_nil _).mono ?_
  rintro e w' ⟨rfl, rfl⟩
  go_wp2_with fail
  refine (rest_nil _).mono ?_
  rintro e w' ⟨rfl, rfl⟩
  go_wp2_with fail
  refine (err_nil _).mono ?_
  rintro e w' ⟨rfl, rfl⟩
  go_wp2_with fail
  go_ret
  exact ⟨rfl, B6.out⟩
end Go.Proofs.Ytclhhnmafmicpaa
