/- Walks: the same bytes laid one behind the other (headraceref01.Both). Conditions: as each theorem states them. -/
import Derived.Test.YtclhhnmafmicpaaRows
import Derived.Test.YtclhhnmafmicpaaL
namespace Go.Proofs.Ytclhhnmafmicpaa
open Go.RowKit

theorem eB : (encB 5).ok Try.prog := Enc.ok_of (z := .int .u8 0) (by kernel_rfl) rfl

abbrev EB := encB 5

set_option maxHeartbeats 1000000 in
theorem both_any (a b : List UInt8) (va vb : Value) (w : World) (hA : Sl EB w va a) (hB : Sl EB w vb b) (hla : a.length ≤ 1000000) (hlb : b.length ≤ 1000000) :
   Calls Try.prog 17 #[va, vb] w
    fun e w' => ∃ v, e = .returned v ∧ Own EB w' w.heap.size v (a ++ b) ∧ Below w.heap.size w w' := by
  obtain ⟨aa, ca, rfl, a1, a2, a3, a4⟩ := hA.byte
  obtain ⟨ab, cb, rfl, b1, b2, b3, b4⟩ := hB.byte
  have HA := Lib.hid a4
  have HB := Lib.hid b4
  clear a3 a4 b3 b4 hA hB
  go_enter Try.func17, Try.ntmps17
  go_wp2_with fail
  go_loopw [5, 6] (fun v i wr => ∃ k : Nat, k ≤ a.length ∧ i = .int .i64 k ∧ Own EB wr w.heap.size v (a.take k) ∧ Below w.heap.size w wr) (fun _ i _ => a.length - (intOf i).toNat)
  case atStart => exact ⟨0, Nat.zero_le _, rfl, Own.nil _ _ _, Below.refl _ _⟩
  case round =>
    obtain ⟨k, hk, rfl, hown, hb⟩ := hrel
    by_cases hlt : k < a.length
    · obtain ⟨bb, oo, rfl, hbl, hc⟩ := HA.out k hlt
      have hc1 : wr.cell? ⟨bb, oo + k, none⟩ = some (.int .u8 (a[k].toNat)) := by rw [hb.cell (by exact hbl)]; exact hc k hlt
      have HT := Lib.hid (take_snoc a k hlt)
      clear hc HA
      have HO := Lib.hid hown; have HBb := Lib.hid hb
      clear hown hb
      go_wp2_with (at_builtin; go_must (refine wpl_app1 eB HO.out a[k] rfl rfl rfl Try.underlying22 rfl rfl (by simp [maxLen]; omega) (by simp [encB]; omega) HBb.out.size ?_; intro v1 w1 hown1 hb1 hg1))
      go_roundw
      case rel => exact ⟨k + 1, hlt, by go_num, HT.out ▸ hown1, HBb.out.trans hb1⟩
      case measure => simp [intOf]; omega
    · obtain rfl : k = a.length := by omega
      rw [List.take_length] at hown
      have HO := Lib.hid hown; have HBb := Lib.hid hb
      clear hown hb hk hlt
      go_wp2_with fail
      go_loopw [5, 7] (fun v i w2 => ∃ k : Nat, k ≤ b.length ∧ i = .int .i64 k ∧ Own EB w2 w.heap.size v (a ++ b.take k) ∧ Below w.heap.size w w2) (fun _ i _ => b.length - (intOf i).toNat)
      case atStart => exact ⟨0, Nat.zero_le _, rfl, by simpa using HO.out, HBb.out⟩
      case round =>
        clear HO HBb
        obtain ⟨k, hk, rfl, hown, hb⟩ := hrel
        by_cases hlt : k < b.length
        · obtain ⟨bb, oo, rfl, hbl, hc⟩ := HB.out k hlt
          have hc1 : wr.cell? ⟨bb, oo + k, none⟩ = some (.int .u8 (b[k].toNat)) := by rw [hb.cell (by exact hbl)]; exact hc k hlt
          have HT := Lib.hid (take_snoc b k hlt)
          clear hc HB
          have HO := Lib.hid hown; have HBb := Lib.hid hb
          clear hown hb
          go_wp2_with (at_builtin; go_must (refine wpl_app1 eB HO.out b[k] rfl rfl rfl Try.underlying22 rfl rfl (by simp [maxLen]; omega) (by simp [encB]; omega) HBb.out.size ?_; intro v1 w1 hown1 hb1 hg1))
          go_roundw
          case rel => exact ⟨k + 1, hlt, by go_num, by rw [HT.out, ← List.append_assoc]; exact hown1, HBb.out.trans hb1⟩
          case measure => simp [intOf]; omega
        · obtain rfl : k = b.length := by omega
          rw [List.take_length] at hown
          have HO := Lib.hid hown; have HBb := Lib.hid hb
          clear hown hb
          go_wp2_with fail
          go_ret
          exact ⟨_, rfl, HO.out, HBb.out⟩
end Go.Proofs.Ytclhhnmafmicpaa
