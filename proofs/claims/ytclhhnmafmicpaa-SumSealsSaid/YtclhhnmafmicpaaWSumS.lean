/- Walk: SumSeals. Conditions: as each theorem states them. -/
import Derived.Test.YtclhhnmafmicpaaWSumU
namespace Go.Proofs.Ytclhhnmafmicpaa
open Go.RowKit
set_option linter.unusedVariables false

theorem idx2 (x y : Value) : (∀ W, (Instr.index 64 (.agg #[x, y]) (.int .i64 0)).run Try.prog W = .ok x W) ∧ (∀ W, (Instr.index 64 (.agg #[x, y]) (.int .i64 1)).run Try.prog W = .ok y W) :=
  ⟨fun _ => by kernel_rfl, fun _ => by kernel_rfl⟩

theorem wrap_u8_sub (c : UInt8) (n : Int) : ∃ c' : UInt8, IntKind.u8.wrap ((c.toNat : Int) - n) = (c'.toNat : Int) := by
  refine ⟨UInt8.ofNat (((c.toNat : Int) - n) % 256).toNat, ?_⟩
  rw [IntKind.wrap_u8, UInt8.toNat_ofNat', Nat.mod_eq_of_lt (by omega)]
  omega

theorem open_len (b : List UInt8) : (openS b).1.length ≤ b.length := by
  unfold openS
  split
  · simp
  · split
    · simp
    · simp only [List.length_take]; omega

set_option maxHeartbeats 4000000 in
set_option maxRecDepth 100000 in
theorem sumseals_main (W : World) (b : List UInt8) (vb : Value) (hB : Sl EB W vb b) (hl : b.length ≤ 600) :
    Calls Try.prog 10 #[vb] W fun e w' => e = .returned (.bool true) ∧ Below W.heap.size W w' := by
  obtain ⟨ab, cb, hv, -⟩ := hB.ex
  subst hv
  have HB := Lib.hid hB
  clear hB
  have hsl := seal_len b
  have hol := open_len b
  have HSL := Lib.hid hsl
  clear hsl
  go_enter Try.func10, Try.ntmps10
  go_wp2_with fail
  refine (wakes3_any _).mono ?_
  rintro e w1 ⟨rfl, hb⟩
  have X1 := Lib.hid hb
  clear hb
  go_wp2_with fail
  refine (both_any b [] _ _ _ (HB.out.le X1.out) (Sl.nil _ _) (by omega) (by simp)).mono ?_
  rintro e w2 ⟨v2, rfl, ho, hb⟩
  rw [List.append_nil] at ho
  have O2 := Lib.hid ho.sl; have X2 := Lib.hid (bt X1.out hb)
  clear ho hb
  go_wp2_with fail
  refine (seal_any b _ _ (HB.out.le X2.out) (by omega)).mono ?_
  rintro e w3 ⟨v3, rfl, ho, hb⟩
  have S3 := Lib.hid ho; have X3 := Lib.hid (bt X2.out hb); have Y3 := Lib.hid hb
  clear ho hb
  go_wp2_with fail
  refine (open_any b _ _ (HB.out.le X3.out) (by omega)).mono ?_
  rintro e w4 ⟨v4, rfl, ho, hb⟩
  have S4 := Lib.hid ho; have X4 := Lib.hid (bt X3.out hb); have Y4 := Lib.hid (bt Y3.out hb); have Z4 := Lib.hid hb
  clear ho hb
  go_wp2_with fail
  refine (refopen_any b _ _ (O2.out.le Y4.out) (by omega)).mono ?_
  rintro e w5 ⟨v5, rfl, ho, hb⟩
  have S5 := Lib.hid ho; have X5 := Lib.hid (bt X4.out hb); have Y5 := Lib.hid (bt Y4.out hb); have Z5 := Lib.hid hb
  clear ho hb
  go_wp2_with fail
  refine (refseal_any b _ _ (O2.out.le Y5.out) (by omega)).mono ?_
  rintro e w6 ⟨v6, rfl, ho, hb⟩
  have S6 := Lib.hid ho; have X6 := Lib.hid (bt X5.out hb); have Y6 := Lib.hid (bt Y5.out hb); have Z6 := Lib.hid hb
  clear ho hb
  go_wp2_with fail
  refine (same_any (sealS b) (sealS b) _ _ _ (S3.out.sl.le (bt Z4.out (bt Z5.out Z6.out))) S6.out.sl (by rw [HSL.out]; omega)).mono ?_
  rintro e w7 ⟨he, hb⟩
  obtain rfl := ret_true he rfl
  have X7 := Lib.hid (bt X6.out hb); have Y7 := Lib.hid (bt Y6.out hb); have Z7 := Lib.hid (bt Z6.out hb)
  clear he hb
  have hn : ((openS b).2 != (openS b).2) = false := by simp
  go_wp2_with fail
  refine (same_any (openS b).1 (openS b).1 _ _ _ (S4.out.sl.le (bt Z5.out Z7.out)) (S5.out.sl.le Z7.out) (by omega)).mono ?_
  rintro e w8 ⟨he, hb⟩
  obtain rfl := ret_true he rfl
  have X8 := Lib.hid (bt X7.out hb); have Y8 := Lib.hid (bt Y7.out hb); have Z8 := Lib.hid (bt Z7.out hb)
  clear he hb
  obtain ⟨a3, c3, hv, -⟩ := S3.out.sl.ex
  rw [HSL.out] at hv
  subst hv
  obtain ⟨a4, c4, hv, -⟩ := S4.out.sl.ex
  subst hv
  have R3 : WrB w8 w2.heap.size (.slice a3 (b.length + 4) c3) (b.length + 4) := by
    have := S3.out.wr.le (bt Z4.out (bt Z5.out Z8.out)); rwa [HSL.out] at this
  have R4 : WrB w8 w2.heap.size (.slice a4 (openS b).1.length c4) (openS b).1.length := (S4.out.wr.le (bt Z5.out Z8.out)).mono Y3.out.size
  have R3 := Lib.hid R3; have R4 := Lib.hid R4
  have hno : (openS b).1.length ≤ 600 := by omega
  go_wp2_with fail
  go_loopw [50] (fun j wr => ∃ k : Nat, k ≤ 2 ∧ j = .int .i64 k ∧ Below w2.heap.size w2 wr ∧ WrB wr w2.heap.size (.slice a3 (b.length + 4) c3) (b.length + 4) ∧ WrB wr w2.heap.size (.slice a4 (openS b).1.length c4) (openS b).1.length) (fun j _ => 2 - (intOf j).toNat)
  case atStart => exact ⟨0, by omega, rfl, Y8.out, R3.out, R4.out⟩
  case round =>
    obtain ⟨k, hk, rfl, hb, r3, r4⟩ := hrel
    have HB2 := Lib.hid hb; have R := Lib.hid (And.intro r3 r4)
    clear hb r3 r4 R3 R4
    by_cases hlt : k < 2
    · obtain ⟨A, n, C, hidx, hR⟩ : ∃ A n C, (∀ W, (Instr.index 64 (.agg #[.slice a3 (b.length + 4) c3, .slice a4 (openS b).1.length c4]) (.int .i64 k)).run Try.prog W = .ok (.slice A n C) W) ∧ WrB wr w2.heap.size (.slice A n C) n ∧ n ≤ 10000 := by
        obtain rfl | rfl : k = 0 ∨ k = 1 := by omega
        · exact ⟨a3, _, c3, (idx2 _ _).1, R.out.1, by omega⟩
        · exact ⟨a4, _, c4, (idx2 _ _).2, R.out.2, by omega⟩
      have HR := Lib.hid hR.1
      have hn := hR.2
      clear hR
      go_wp2_with fail
      go_loopw [55] (fun i w2' => ∃ k : Nat, k ≤ n ∧ i = .int .i64 k ∧ Below w2.heap.size w2 w2' ∧ WrB w2' w2.heap.size (.slice A n C) n ∧ WrB w2' w2.heap.size (.slice a3 (b.length + 4) c3) (b.length + 4) ∧ WrB w2' w2.heap.size (.slice a4 (openS b).1.length c4) (openS b).1.length) (fun j _ => n - (intOf j).toNat)
      case atStart => exact ⟨0, by omega, rfl, HB2.out, HR.out, R.out.1, R.out.2⟩
      case round =>
        obtain ⟨i, hi, rfl, hb, r0, r3, r4⟩ := hrel
        have HB3 := Lib.hid hb
        by_cases hlt2 : i < n
        · have r0' := r0
          obtain ⟨A', C', hv, hex⟩ := r0'
          simp only [Value.slice.injEq] at hv
          obtain ⟨rfl, -, rfl⟩ := hv
          obtain ⟨g, off, cur, rfl, hbg, hg, hc⟩ := hex (by omega)
          obtain ⟨c, hci⟩ := hc i hlt2
          have q := (blk hg).1 (off + i)
          rw [hci] at q
          have q2 := (blk hg).2 (off + i)
          obtain ⟨c', hc'⟩ := wrap_u8_sub c 1
          have R2 := Lib.hid (And.intro r0 (And.intro r3 r4))
          clear r0 r3 r4 hex hg hc hci hb
          go_wp2_with fail
          go_roundw
          case rel => exact ⟨i + 1, hlt2, by go_num, HB3.out.setCell hbg _, R2.out.1.set _ _ _, R2.out.2.1.set _ _ _, R2.out.2.2.set _ _ _⟩
          case measure => simp [intOf]; omega
        · have R2 := Lib.hid (And.intro r3 r4)
          clear r0 r3 r4 hb
          go_wp2_with fail
          go_roundw
          case rel => exact ⟨k + 1, hlt, by go_num, HB3.out, R2.out.1, R2.out.2⟩
          case measure => simp [intOf]; omega
    · go_wp2_with fail
      refine (same_any b b _ _ _ (HB.out.le (bt X2.out HB2.out)) (O2.out.le HB2.out) (by omega)).mono ?_
      rintro e w9 ⟨he, hb⟩
      obtain rfl := ret_true he rfl
      have X9 := Lib.hid (bt (bt X2.out HB2.out) hb)
      clear he hb
      go_wp2_with fail
      go_ret
      exact ⟨rfl, X9.out⟩

theorem sumseals_walk (W : World) (b : List UInt8) (vb : Value) (hB : Sl EB W vb b) :
    Calls Try.prog 10 #[vb] W fun e w' => e = .returned (.bool true) ∧ Below W.heap.size W w' := by
  by_cases hl : b.length ≤ 600
  · exact sumseals_main W b vb hB hl
  · obtain ⟨ab, cb, hv, -⟩ := hB.ex
    subst hv
    clear hB
    go_enter Try.func10, Try.ntmps10
    go_wp2_with fail
    refine (wakes3_any _).mono ?_
    rintro e w1 ⟨rfl, hb⟩
    have X1 := Lib.hid hb
    clear hb
    go_wp2_with fail
    go_ret
    exact ⟨rfl, X1.out⟩
end Go.Proofs.Ytclhhnmafmicpaa
