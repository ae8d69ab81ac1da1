/- Walks: bytes.Equal, octet.Equal, headraceref01.Same, bytes.Clone. Conditions: as each theorem states them. -/
import Derived.Test.YtclhhnmafmicpaaA
namespace Go.Proofs.Ytclhhnmafmicpaa
open Go.RowKit

set_option maxHeartbeats 1000000 in
theorem bequal_any (a b : List UInt8) (va vb : Value) (w : World) (hA : Sl EB w va a) (hB : Sl EB w vb b) :
   Calls Try.prog 22 #[va, vb] w fun e w' => e = .returned (.bool (decide (a = b))) ∧ w = w' := by
  have h1 := hA.conv (P := Try.prog) (src := 22) (dst := 9) Try.underlying22 Try.underlying5 Try.underlying9
  have h2 := hB.conv (P := Try.prog) (src := 22) (dst := 9) Try.underlying22 Try.underlying5 Try.underlying9
  have h3 := Lib.hid (show (a == b) = decide (a = b) by by_cases h : a = b <;> simp [h])
  clear hA hB
  go_enter Try.func22, Try.ntmps22
  go_wp2_with fail
  go_ret
  exact ⟨by rw [← h3.out]; rfl, rfl⟩

set_option maxHeartbeats 1000000 in
theorem equal_any (a b : List UInt8) (va vb : Value) (w : World) (hA : Sl EB w va a) (hB : Sl EB w vb b) :
   Calls Try.prog 15 #[va, vb] w fun e w' => e = .returned (.bool (decide (a = b))) ∧ w = w' := by
  go_enter Try.func15, Try.ntmps15
  go_wp2_with (go_at_call 22; refine (bequal_any a b _ _ _ hA hB).mono ?_; rintro e w' ⟨rfl, rfl⟩)
  go_ret
  exact ⟨rfl, rfl⟩

set_option maxHeartbeats 1000000 in
theorem same_any (a b : List UInt8) (va vb : Value) (w : World) (hA : Sl EB w va a) (hB : Sl EB w vb b) (hla : a.length ≤ 9223372036854775807) :
   Calls Try.prog 16 #[va, vb] w fun e w' => e = .returned (.bool (decide (a = b))) ∧ Below w.heap.size w w' := by
  obtain ⟨aa, ca, rfl, a1, a2, a3, a4⟩ := hA.byte
  obtain ⟨ab, cb, rfl, b1, b2, b3, b4⟩ := hB.byte
  have HA := Lib.hid a4
  have HB := Lib.hid b4
  clear a3 a4 b3 b4 hA hB
  by_cases hl : a.length = b.length
  · have hl' : ((a.length : Int) != (b.length : Int)) = false := by simp [hl]
    have HL := Lib.hid hl
    have hlb : a.length ≤ b.length := by omega
    clear hl
    go_enter Try.func16, Try.ntmps16
    go_wp2_with fail
    go_loopw [5] (fun i wr => ∃ k : Nat, k ≤ a.length ∧ i = .int .i64 k ∧ a.take k = b.take k ∧ Below w.heap.size w wr) (fun i _ => a.length - (intOf i).toNat)
    case atStart => exact ⟨0, Nat.zero_le _, rfl, by simp, Below.refl _ _⟩
    case round =>
      obtain ⟨k, hk, rfl, htk, hb⟩ := hrel
      by_cases hlt : k < a.length
      · have hlt2 : k < b.length := by omega
        obtain ⟨ba, oa, rfl, hbl1, hc1⟩ := HA.out k hlt
        obtain ⟨bb, ob, rfl, hbl2, hc2⟩ := HB.out k hlt2
        have hc1' : wr.cell? ⟨ba, oa + k, none⟩ = some (.int .u8 (a[k].toNat)) := by rw [hb.cell (by exact hbl1)]; exact hc1 k hlt
        have hc2' : wr.cell? ⟨bb, ob + k, none⟩ = some (.int .u8 (b[k].toNat)) := by rw [hb.cell (by exact hbl2)]; exact hc2 k hlt2
        have HT := Lib.hid htk
        have HS := Lib.hid (take_snoc a k hlt)
        have HS2 := Lib.hid (take_snoc b k hlt2)
        have HBb := Lib.hid hb
        clear htk hc1 hc2 hb
        by_cases heq : a[k] = b[k]
        · have hne : ((a[k].toNat : Int) != (b[k].toNat : Int)) = false := by simp [heq]
          have HQ := Lib.hid heq
          clear heq
          go_wp2_with fail
          go_quiet (fail)
          go_wp2_with fail
          go_roundw
          case rel => exact ⟨k + 1, hlt, by go_num, by rw [HS.out, HS2.out, HT.out, HQ.out], below_drewN HBb.out _⟩
          case measure => simp [intOf]; omega
        · have hne : ((a[k].toNat : Int) != (b[k].toNat : Int)) = true := by
            simp only [bne_iff_ne, ne_eq]
            intro h
            exact heq (UInt8.toNat_inj.1 (by omega))
          have HQ := Lib.hid heq
          clear heq
          go_wp2_with fail
          go_quiet (fail)
          go_wp2_with fail
          go_ret
          have e : decide (a = b) = false := decide_eq_false (by intro h; subst h; exact HQ.out rfl)
          exact ⟨by rw [e]; rfl, below_drewN HBb.out _⟩
      · obtain rfl : k = a.length := by omega
        have HT := Lib.hid htk
        have HBb := Lib.hid hb
        clear htk hb
        go_wp2_with fail
        go_ret
        have e : decide (a = b) = true := decide_eq_true (by
          have := HT.out
          rw [List.take_length, HL.out, List.take_length] at this
          exact this)
        exact ⟨by rw [e]; rfl, HBb.out⟩
  · have hl' : ((a.length : Int) != (b.length : Int)) = true := by simp; omega
    have HL := Lib.hid hl
    clear hl
    go_enter Try.func16, Try.ntmps16
    go_wp2_with fail
    go_ret
    have e : decide (a = b) = false := decide_eq_false (by intro h; exact HL.out (by rw [h]))
    exact ⟨by rw [e]; rfl, Below.refl _ _⟩

set_option maxHeartbeats 1000000 in
theorem clone_any (b : List UInt8) (vb : Value) (w : World) (hB : Sl EB w vb b) (hl : b.length ≤ 100000000) :
   Calls Try.prog 35 #[vb] w fun e w' => ∃ v, e = .returned v ∧ Own EB w' w.heap.size v b ∧ Below w.heap.size w w' := by
  obtain ⟨ab, cb, rfl, b1, b2, b3, b4⟩ := hB.byte
  cases ab with
  | none =>
    have h := b3 rfl
    subst h
    clear b3 b4 hB
    have hn := fun (w : World) => Lib.run_eql_slice_nil (P := Try.prog) w 22 5 none 0 cb 0 0 Try.underlying22
    go_enter Try.func35, Try.ntmps35
    go_wp2_with fail
    go_ret
    exact ⟨_, rfl, Own.nil _ _ _, Below.refl _ _⟩
  | some x =>
    clear b3 b4
    have hn := fun (w : World) => Lib.run_eql_slice_nil (P := Try.prog) w 22 5 (some x) b.length cb 0 0 Try.underlying22
    have HB := Lib.hid hB
    have HO := Lib.hid (Own.made EB w [] #[] rfl (by simp [maxLen]) w.heap.size (Nat.le_refl _) 0 rfl)
    clear hB
    go_enter Try.func35, Try.ntmps35
    go_wp2_with (at_builtin; go_must (refine wpl_app eB HO.out (HB.out.le (below_alloc w _)) rfl rfl Try.underlying22 rfl rfl (by simp [maxLen]; omega) (by simp [encB]; omega) (by simp) ?_; intro v1 w1 hown1 hb1 hg1))
    go_ret
    exact ⟨_, rfl, by simpa using hown1, ((below_alloc w _).trans (hb1.mono (Nat.le_refl _)))⟩
end Go.Proofs.Ytclhhnmafmicpaa
