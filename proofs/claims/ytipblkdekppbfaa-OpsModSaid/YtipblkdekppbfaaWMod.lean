/- Walk: OpsMod. Conditions: as each theorem states them. -/
import Derived.Test.YtipblkdekppbfaaI
import Derived.Test.YtipblkdekppbfaaQ
namespace Go.Proofs.Ytipblkdekppbfaa
open Go.RowKit
set_option linter.unusedVariables false

set_option maxHeartbeats 2000000 in
theorem mod_walk (W : World) (l : List Int) (vl : Value) (hL : Sl EI W vl l) (hl : ∀ x ∈ l, i64b x) (by_ : List Int) (vb : Value) (hB : Sl EI W vb by_) (hb : ∀ x ∈ by_, i64b x) :
    Calls Try.prog 4 #[vl, vb] W fun e w' => e = .returned (.bool true) ∧ Below W.heap.size W w' := by
  obtain ⟨al, cl, rfl, l1, l2, -, l4⟩ := hL.num
  obtain ⟨ab, cb, rfl, b1, b2, -, b4⟩ := hB.num
  have hll : l.length ≤ 9223372036854775807 := by unfold maxLen at l2; omega
  have hlb : by_.length ≤ 9223372036854775807 := by unfold maxLen at b2; omega
  have HA := Lib.hid l4; have HB := Lib.hid b4; have HL := Lib.hid hl; have HBB := Lib.hid hb
  clear l4 b4 hL hB hl hb
  go_enter Try.func4, Try.ntmps4
  go_wp2_with fail
  refine (wakes_any _).mono ?_
  rintro e w1 ⟨rfl, hb⟩
  have X1 := Lib.hid hb
  clear hb
  go_wp2_with fail
  go_loop [13] (fun i => ∃ k : Nat, k ≤ l.length ∧ i = .int .i64 k) (fun i => l.length - (intOf i).toNat)
  case atStart => exact ⟨0, Nat.zero_le _, rfl⟩
  case round =>
    obtain ⟨k, hk, rfl⟩ := hrel
    by_cases hlt : k < l.length
    · obtain ⟨bb, oo, rfl, hbl, hc⟩ := HA.out k hlt
      have hc1 := (X1.out.cell (p := ⟨bb, oo + k, none⟩) hbl).trans (hc k hlt)
      have hxb := HL.out _ (List.getElem_mem hlt)
      obtain ⟨x, hx⟩ : ∃ x, l[k] = x := ⟨_, rfl⟩
      rw [hx] at hc1 hxb
      have HXB := Lib.hid hxb
      clear hc hx hxb
      go_wp2_with fail
      go_loop [20] (fun i => ∃ j : Nat, j ≤ by_.length ∧ i = .int .i64 j) (fun i => by_.length - (intOf i).toNat)
      case atStart => exact ⟨0, Nat.zero_le _, rfl⟩
      case round =>
        obtain ⟨j, hj, rfl⟩ := hrel
        by_cases hlt2 : j < by_.length
        · obtain ⟨b2', o2, rfl, hbl2, hc2⟩ := HB.out j hlt2
          have hc2' := (X1.out.cell (p := ⟨b2', o2 + j, none⟩) hbl2).trans (hc2 j hlt2)
          have hyb := HBB.out _ (List.getElem_mem hlt2)
          obtain ⟨y, hy⟩ : ∃ y, by_[j] = y := ⟨_, rfl⟩
          rw [hy] at hc2' hyb
          have HYB := Lib.hid hyb
          clear hc2 hy hyb
          by_cases h20 : k < 20
          · by_cases h20b : j < 20
            · have hm : (modS x y != modS x y) = false := by simp
              go_wp2_with (first | (go_at_call 16; refine (mod16_any x y HXB.out HYB.out _).mono ?_; rintro e w2 ⟨rfl, rfl⟩) | (go_at_call 17; refine (mod17_any x y HXB.out HYB.out _).mono ?_; rintro e w2 ⟨rfl, rfl⟩))
              go_round
              case rel => exact ⟨j + 1, hlt2, by go_num⟩
              case measure => simp [intOf]; omega
            · go_wp2_with fail
              go_round
              case rel => exact ⟨j + 1, hlt2, by go_num⟩
              case measure => simp [intOf]; omega
          · go_wp2_with fail
            go_round
            case rel => exact ⟨j + 1, hlt2, by go_num⟩
            case measure => simp [intOf]; omega
        · go_wp2_with fail
          go_round
          case rel => exact ⟨k + 1, hlt, by go_num⟩
          case measure => simp [intOf]; omega
    · go_wp2_with fail
      go_ret
      exact ⟨rfl, X1.out⟩
end Go.Proofs.Ytipblkdekppbfaa
