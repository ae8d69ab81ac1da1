/- Walks: slices.Index, slices.Contains over []int64. Conditions: as each theorem states them. -/
import Derived.Test.YtipblkdekppbfaaB
import Derived.Test.YtipblkdekppbfaaP
import Derived.Deep.CutBlock
namespace Go.Proofs.Ytipblkdekppbfaa
open Go.RowKit
set_option linter.unusedVariables false

set_option maxHeartbeats 1000000 in
theorem index34_any (l : List Int) (x : Int) (v : Value) (w : World) (hV : Sl EI w v l) :
    Calls Try.prog 34 #[v, .int .i64 x] w fun e w' => ∃ k : Int, e = .returned (.int .i64 k) ∧ (0 ≤ k ↔ x ∈ l) ∧ w = w' := by
  obtain ⟨a, c, rfl, a1, a2, -, a4⟩ := hV.num
  have HA := Lib.hid a4
  have hla : l.length ≤ 9223372036854775807 := by unfold maxLen at a2; omega
  clear a4 hV
  go_enter Try.func34, Try.ntmps34
  go_wp2_with fail
  go_loop [8] (fun i => ∃ k : Nat, k ≤ l.length ∧ i = .int .i64 k ∧ x ∉ l.take k) (fun i => l.length - (intOf i).toNat)
  case atStart => exact ⟨0, Nat.zero_le _, rfl, by simp⟩
  case round =>
    obtain ⟨k, hk, rfl, htk⟩ := hrel
    by_cases hlt : k < l.length
    · obtain ⟨ba, oa, rfl, hbl1, hc1⟩ := HA.out k hlt
      have hc1' := hc1 k hlt
      have HT := Lib.hid htk
      have HS := Lib.hid (take_snoc l k hlt)
      have HM := Lib.hid (List.getElem_mem hlt)
      obtain ⟨y, hy⟩ : ∃ y, l[k] = y := ⟨_, rfl⟩
      rw [hy] at hc1'
      have HY := Lib.hid hy
      clear htk hc1 hy
      by_cases heq : x = y
      · have hne : (x == y) = true := by simp [heq]
        have HQ := Lib.hid heq
        clear heq
        go_wp2_with fail
        go_ret
        exact ⟨k, rfl, ⟨fun _ => by rw [HQ.out, ← HY.out]; exact HM.out, fun _ => by omega⟩, rfl⟩
      · have hne : (x == y) = false := by simp [heq]
        have HQ := Lib.hid heq
        clear heq
        go_wp2_with fail
        go_round
        case rel => exact ⟨k + 1, hlt, by go_num, by rw [HS.out, List.mem_append]; rintro (h | h); exact HT.out h; simp only [List.mem_singleton] at h; exact HQ.out (h.trans HY.out)⟩
        case measure => simp [intOf]; omega
    · obtain rfl : k = l.length := by omega
      have HT := Lib.hid htk
      clear htk
      go_wp2_with fail
      go_ret
      exact ⟨-1, rfl, ⟨fun h => by omega, fun h => by have := HT.out; rw [List.take_length] at this; exact absurd h this⟩, rfl⟩

set_option maxHeartbeats 1000000 in
theorem contains25_any (l : List Int) (x : Int) (v : Value) (w : World) (hV : Sl EI w v l) (hx : x ∈ l) :
    Calls Try.prog 25 #[v, .int .i64 x] w fun e w' => e = .returned (.bool true) ∧ w = w' := by
  have HI := Lib.hid (index34_any l x v w hV)
  obtain ⟨a, c, rfl, a1, a2, -, -⟩ := hV.num
  have HX := Lib.hid hx
  clear hx hV
  go_enter Try.func25, Try.ntmps25
  go_wp2_with fail
  refine HI.out.mono ?_
  rintro e w1 ⟨k, rfl, hk, rfl⟩
  have h0 : 0 ≤ k := hk.2 HX.out
  clear hk
  go_wp2_with fail
  go_ret
  exact ⟨by first | rfl | exact ret_bool (by simp [h0]), rfl⟩
end Go.Proofs.Ytipblkdekppbfaa
