/- Walk of the law OctetLays. Conditions: as each theorem states them. -/
import Derived.Test.YtclhhnmafmicpaaH
namespace Go.Proofs.Ytclhhnmafmicpaa
open Go.RowKit
set_option linter.unusedVariables false

def threes : List UInt8 := [3, 3, 3, 3, 3, 3, 3, 3]

theorem idx3 (x y z : Value) : (∀ W, (Instr.index 33 (.agg #[x, y, z]) (.int .i64 0)).run Try.prog W = .ok x W) ∧ (∀ W, (Instr.index 33 (.agg #[x, y, z]) (.int .i64 1)).run Try.prog W = .ok y W) ∧ (∀ W, (Instr.index 33 (.agg #[x, y, z]) (.int .i64 2)).run Try.prog W = .ok z W) :=
  ⟨fun _ => by kernel_rfl, fun _ => by kernel_rfl, fun _ => by kernel_rfl⟩

theorem wrap_u8_add (c : UInt8) (n : Int) : ∃ c' : UInt8, IntKind.u8.wrap ((c.toNat : Int) + n) = (c'.toNat : Int) := by
  refine ⟨UInt8.ofNat (((c.toNat : Int) + n) % 256).toNat, ?_⟩
  rw [IntKind.wrap_u8, UInt8.toNat_ofNat', Nat.mod_eq_of_lt (by omega)]
  omega

set_option maxHeartbeats 2000000 in
theorem lays_main (a b : List UInt8) (va vb : Value) (x : Int) (h0 : 0 ≤ x) (h1 : x ≤ 18446744073709551615) (w : World) (hA : Sl EB w va a) (hB : Sl EB w vb b) (hla : a.length ≤ 3000) (hlb : b.length ≤ 3000) :
    Calls Try.prog 3 #[va, vb, .int .u64 x] w fun e w' => e = .returned (.bool true) ∧ Below w.heap.size w w' := by
  obtain ⟨y, hy⟩ : ∃ y, IntKind.u16.wrap x = y := ⟨_, rfl⟩
  obtain ⟨z, hz⟩ : ∃ z, IntKind.u32.wrap x = z := ⟨_, rfl⟩
  have hy' := hy
  have hz' := hz
  rw [IntKind.wrap_u16] at hy'
  rw [IntKind.wrap_u32] at hz'
  have hy0 : 0 ≤ y ∧ y ≤ 65535 := by omega
  have hz0 : 0 ≤ z ∧ z ≤ 4294967295 := by omega
  obtain ⟨hy0, hy1⟩ := hy0
  obtain ⟨hz0, hz1⟩ := hz0
  have P2 := Lib.hid (show hi y.toNat 2 = hi x.toNat 2 by rw [← hi_mod 2 x.toNat]; congr 1; omega)
  have P4 := Lib.hid (show hi z.toNat 4 = hi x.toNat 4 by rw [← hi_mod 4 x.toNat]; congr 1; omega)
  clear hy' hz'
  have HA := Lib.hid hA; have HB := Lib.hid hB
  obtain ⟨aa, ca, hv, _⟩ := hA.ex
  subst hv
  obtain ⟨ab, cb, hv, _⟩ := hB.ex
  subst hv
  clear hA hB
  go_enter Try.func3, Try.ntmps3
  go_wp2_with fail
  refine (wakes_any _).mono ?_
  rintro e w1 ⟨rfl, hb⟩
  have B1 := Lib.hid hb; clear hb
  have A1 := Lib.hid (HA.out.le B1.out); have S1 := Lib.hid (HB.out.le B1.out)
  go_wp2_with fail
  refine (equal_any a b _ _ _ A1.out S1.out).mono ?_
  rintro e w' ⟨rfl, rfl⟩
  go_wp2_with fail
  refine (same_any a b _ _ _ A1.out S1.out (by omega)).mono ?_
  rintro e w2 ⟨rfl, hb⟩
  have B2 := Lib.hid (bt B1.out hb); clear hb
  have A2 := Lib.hid (HA.out.le B2.out)
  go_wp2_with fail
  refine (both_any a [] _ _ _ A2.out (Sl.nil _ _) (by omega) (by simp)).mono ?_
  rintro e w3 ⟨v3, rfl, ho, hb⟩
  have O3 := Lib.hid ho; have B3 := Lib.hid (bt B2.out hb); clear hb ho
  have A3 := Lib.hid (HA.out.le B3.out)
  go_wp2_with fail
  refine (equal_any a _ _ _ _ A3.out O3.out.sl).mono ?_
  rintro e w' ⟨he, rfl⟩
  obtain rfl := ret_true he (by simp)
  clear he
  have M3 := Lib.hid (Own.made EB w3 threes #[.int .u8 3, .int .u8 3, .int .u8 3, .int .u8 3, .int .u8 3, .int .u8 3, .int .u8 3, .int .u8 3] rfl (by simp [maxLen, threes]) w3.heap.size (Nat.le_refl _) 8 rfl)
  have L3 := Lib.hid (below_alloc w3 (.cells #[.int .u8 3, .int .u8 3, .int .u8 3, .int .u8 3, .int .u8 3, .int .u8 3, .int .u8 3, .int .u8 3] 5))
  go_wp2_with fail
  refine (both_any a threes _ _ _ (A3.out.le L3.out) M3.out.sl (by omega) (by simp [threes])).mono ?_
  rintro e w4 ⟨v4, rfl, ho, hb⟩
  obtain ⟨ar, cr, hv, hlr, _⟩ := ho.sl.ex
  rw [show (a ++ threes).length = a.length + 8 by simp [threes]] at hv hlr
  subst hv
  have O4 := Lib.hid ho; have BB := Lib.hid hb; have B4 := Lib.hid (bt B3.out (bt L3.out hb)); clear hb ho
  obtain ⟨hs1, hs2⟩ := O4.out.sl.slice_hi eB (t := 22) Try.underlying22 .i64 (a.length : Int) (by omega) (by simp; omega)
  rw [show (a ++ threes).take ((a.length : Int).toNat) = a by simp] at hs2
  simp only [Int.toNat_natCast] at hs1 hs2
  have I4 := Lib.hid hs2; clear hs2
  go_wp2_with fail
  refine (put16_any a _ _ _ I4.out (by omega) (by omega) (by omega)).mono ?_
  rintro e w5 ⟨v5, rfl, ho, hb⟩
  obtain ⟨a5, c5, hv, _⟩ := ho.sl.ex
  rw [show (a ++ hi y.toNat 2).length = a.length + 2 by simp [hi_len]] at hv
  subst hv
  have O5 := Lib.hid ho; have C5 := Lib.hid hb; clear hb ho
  go_wp2_with fail
  refine (put32_any a _ _ _ (I4.out.le C5.out) (by omega) (by omega) (by omega)).mono ?_
  rintro e w6 ⟨v6, rfl, ho, hb⟩
  obtain ⟨a6, c6, hv, _⟩ := ho.sl.ex
  rw [show (a ++ hi z.toNat 4).length = a.length + 4 by simp [hi_len]] at hv
  subst hv
  have O6 := Lib.hid ho; have C6 := Lib.hid (bt C5.out hb); have O56 := Lib.hid (O5.out.le hb); clear hb ho
  go_wp2_with fail
  refine (put64_any a _ _ _ (I4.out.le C6.out) (by omega) (by omega) (by omega)).mono ?_
  rintro e w7 ⟨v7, rfl, ho, hb⟩
  obtain ⟨a7, c7, hv, _⟩ := ho.sl.ex
  rw [show (a ++ hi x.toNat 8).length = a.length + 8 by simp [hi_len]] at hv
  subst hv
  have O7 := Lib.hid ho; have C7 := Lib.hid (bt C6.out hb); have O57 := Lib.hid (O56.out.le hb); have O67 := Lib.hid (O6.out.le hb); clear hb ho O5 O56 O6 hs1
  go_wp2_with fail
  have E7 := Lib.hid (Below.refl w7.heap.size w7)
  refine (high_any 2 x 2 _ rfl (by omega) h0 h1).mono ?_
  rintro e w8 ⟨v8, rfl, ho, hb⟩
  have O8 := Lib.hid ho; have C8 := Lib.hid (bt C7.out hb); have D8 := Lib.hid hb; clear hb ho
  go_wp2_with fail
  refine (both_any a (hi x.toNat 2) _ _ _ (A3.out.le (bt L3.out (bt BB.out C8.out))) O8.out.sl (by omega) (by rw [hi_len]; omega)).mono ?_
  rintro e w9 ⟨v9, rfl, ho, hb⟩
  have O9 := Lib.hid ho; have C9 := Lib.hid (bt C8.out hb); have D9 := Lib.hid (bt D8.out hb); clear hb ho
  go_wp2_with fail
  refine (same_any _ _ _ _ _ ((O57.out.sl.le E7.out).le D9.out) O9.out.sl (by simp [hi_len]; omega)).mono ?_
  rintro e w10 ⟨he, hb⟩
  obtain rfl := ret_true he (by first | rfl | rw [P2.out])
  have C10 := Lib.hid (bt C9.out hb); have E10 := Lib.hid (bt E7.out (bt D9.out hb)); clear hb he
  go_wp2_with fail
  refine (high_any 4 x 4 _ rfl (by omega) h0 h1).mono ?_
  rintro e w11 ⟨v11, rfl, ho, hb⟩
  have O11 := Lib.hid ho; have C11 := Lib.hid (bt C10.out hb); have D11 := Lib.hid hb; clear hb ho
  go_wp2_with fail
  refine (both_any a (hi x.toNat 4) _ _ _ (A3.out.le (bt L3.out (bt BB.out C11.out))) O11.out.sl (by omega) (by rw [hi_len]; omega)).mono ?_
  rintro e w12 ⟨v12, rfl, ho, hb⟩
  have O12 := Lib.hid ho; have C12 := Lib.hid (bt C11.out hb); have D12 := Lib.hid (bt D11.out hb); clear hb ho
  go_wp2_with fail
  refine (same_any _ _ _ _ _ ((O67.out.sl.le E10.out).le D12.out) O12.out.sl (by simp [hi_len]; omega)).mono ?_
  rintro e w13 ⟨he, hb⟩
  obtain rfl := ret_true he (by first | rfl | rw [P4.out])
  have C13 := Lib.hid (bt C12.out hb); have E13 := Lib.hid (bt E10.out (bt D12.out hb)); clear hb he
  go_wp2_with fail
  refine (high_any 8 x 8 _ rfl (by omega) h0 h1).mono ?_
  rintro e w14 ⟨v14, rfl, ho, hb⟩
  have O14 := Lib.hid ho; have C14 := Lib.hid (bt C13.out hb); have D14 := Lib.hid hb; clear hb ho
  go_wp2_with fail
  refine (both_any a (hi x.toNat 8) _ _ _ (A3.out.le (bt L3.out (bt BB.out C14.out))) O14.out.sl (by omega) (by rw [hi_len]; omega)).mono ?_
  rintro e w15 ⟨v15, rfl, ho, hb⟩
  have O15 := Lib.hid ho; have C15 := Lib.hid (bt C14.out hb); have D15 := Lib.hid (bt D14.out hb); clear hb ho
  go_wp2_with fail
  refine (same_any _ _ _ _ _ ((O7.out.sl.le E13.out).le D15.out) O15.out.sl (by simp [hi_len]; omega)).mono ?_
  rintro e w16 ⟨he, hb⟩
  obtain rfl := ret_true he (by first | rfl | rw [P2.out])
  have C16 := Lib.hid (bt C15.out hb); have E16 := Lib.hid (bt E13.out (bt D15.out hb)); clear hb he
  go_wp2_with fail
  have R5 : WrB w16 w4.heap.size (.slice a5 (a.length + 2) c5) (a.length + 2) := by
    have := (O57.out.wr.le E16.out); rwa [show (a ++ hi y.toNat 2).length = a.length + 2 by simp [hi_len]] at this
  have R6 : WrB w16 w4.heap.size (.slice a6 (a.length + 4) c6) (a.length + 4) := by
    have := (O67.out.wr.le E16.out).mono C5.out.size; rwa [show (a ++ hi z.toNat 4).length = a.length + 4 by simp [hi_len]] at this
  have R7 : WrB w16 w4.heap.size (.slice a7 (a.length + 8) c7) (a.length + 8) := by
    have := (O7.out.wr.le E16.out).mono C6.out.size; rwa [show (a ++ hi x.toNat 8).length = a.length + 8 by simp [hi_len]] at this
  have R5 := Lib.hid R5; have R6 := Lib.hid R6; have R7 := Lib.hid R7
  go_loopw [86] (fun j wr => ∃ k : Nat, k ≤ 3 ∧ j = .int .i64 k ∧ Below w4.heap.size w4 wr ∧ WrB wr w4.heap.size (.slice a5 (a.length + 2) c5) (a.length + 2) ∧ WrB wr w4.heap.size (.slice a6 (a.length + 4) c6) (a.length + 4) ∧ WrB wr w4.heap.size (.slice a7 (a.length + 8) c7) (a.length + 8)) (fun j _ => 3 - (intOf j).toNat)
  case atStart => exact ⟨0, by omega, rfl, C16.out, R5.out, R6.out, R7.out⟩
  case round =>
    obtain ⟨k, hk, rfl, hb, r5, r6, r7⟩ := hrel
    have HB := Lib.hid hb; have R := Lib.hid (And.intro r5 (And.intro r6 r7))
    clear hb r5 r6 r7 R5 R6 R7
    by_cases hlt : k < 3
    · obtain ⟨A, n, C, hidx, hR⟩ : ∃ A n C, (∀ W, (Instr.index 33 (.agg #[.slice a5 (a.length + 2) c5, .slice a6 (a.length + 4) c6, .slice a7 (a.length + 8) c7]) (.int .i64 k)).run Try.prog W = .ok (.slice A n C) W) ∧ WrB wr w4.heap.size (.slice A n C) n ∧ n ≤ 10000 := by
        obtain rfl | rfl | rfl : k = 0 ∨ k = 1 ∨ k = 2 := by omega
        · exact ⟨a5, _, c5, (idx3 _ _ _).1, R.out.1, by omega⟩
        · exact ⟨a6, _, c6, (idx3 _ _ _).2.1, R.out.2.1, by omega⟩
        · exact ⟨a7, _, c7, (idx3 _ _ _).2.2, R.out.2.2, by omega⟩
      have HR := Lib.hid hR.1
      have hn := hR.2
      clear hR
      go_wp2_with fail
      go_loopw [91] (fun i w2 => ∃ k : Nat, k ≤ n ∧ i = .int .i64 k ∧ Below w4.heap.size w4 w2 ∧ WrB w2 w4.heap.size (.slice A n C) n ∧ WrB w2 w4.heap.size (.slice a5 (a.length + 2) c5) (a.length + 2) ∧ WrB w2 w4.heap.size (.slice a6 (a.length + 4) c6) (a.length + 4) ∧ WrB w2 w4.heap.size (.slice a7 (a.length + 8) c7) (a.length + 8)) (fun j _ => n - (intOf j).toNat)
      case atStart => exact ⟨0, by omega, rfl, HB.out, HR.out, R.out.1, R.out.2.1, R.out.2.2⟩
      case round =>
        obtain ⟨i, hi, rfl, hb, r0, r5, r6, r7⟩ := hrel
        have HB2 := Lib.hid hb
        by_cases hlt2 : i < n
        · have r0' := r0
          obtain ⟨A', C', hv, hex⟩ := r0'
          simp only [Value.slice.injEq] at hv
          obtain ⟨rfl, _, rfl⟩ := hv
          obtain ⟨g, off, cur, rfl, hbg, hg, hc⟩ := hex (by omega)
          obtain ⟨c, hci⟩ := hc i hlt2
          have q := (blk hg).1 (off + i)
          rw [hci] at q
          have q2 := (blk hg).2 (off + i)
          obtain ⟨c', hc'⟩ := wrap_u8_add c 7
          have R2 := Lib.hid (And.intro r0 (And.intro r5 (And.intro r6 r7)))
          clear r0 r5 r6 r7 hex hg hc hci hb
          go_wp2_with fail
          go_roundw
          case rel => exact ⟨i + 1, hlt2, by go_num, HB2.out.setCell hbg _, R2.out.1.set _ _ _, R2.out.2.1.set _ _ _, R2.out.2.2.1.set _ _ _, R2.out.2.2.2.set _ _ _⟩
          case measure => simp [intOf]; omega
        · have R2 := Lib.hid (And.intro r5 (And.intro r6 r7))
          clear r0 r5 r6 r7 hb
          go_wp2_with fail
          go_roundw
          case rel => exact ⟨k + 1, hlt, by go_num, HB2.out, R2.out.1, R2.out.2.1, R2.out.2.2⟩
          case measure => simp [intOf]; omega
    · have M := Lib.hid (Own.made EB wr threes #[.int .u8 3, .int .u8 3, .int .u8 3, .int .u8 3, .int .u8 3, .int .u8 3, .int .u8 3, .int .u8 3] rfl (by simp [maxLen, threes]) wr.heap.size (Nat.le_refl _) 8 rfl)
      have L := Lib.hid (below_alloc wr (.cells #[.int .u8 3, .int .u8 3, .int .u8 3, .int .u8 3, .int .u8 3, .int .u8 3, .int .u8 3, .int .u8 3] 5))
      go_wp2_with fail
      refine (both_any a threes _ _ _ (A3.out.le (bt L3.out (bt BB.out (bt HB.out L.out)))) M.out.sl (by omega) (by simp [threes])).mono ?_
      rintro e w18 ⟨v18, rfl, ho, hb⟩
      have O := Lib.hid ho; have C := Lib.hid (bt HB.out (bt L.out hb)); clear hb ho
      go_wp2_with fail
      refine (same_any _ _ _ _ _ (O4.out.sl.le C.out) O.out.sl (by simp [threes]; omega)).mono ?_
      rintro e w19 ⟨he, hb⟩
      obtain rfl := ret_true he rfl
      have C' := Lib.hid (bt C.out hb); clear hb he
      go_wp2_with fail
      go_ret
      exact ⟨rfl, bt B4.out C'.out⟩

set_option maxHeartbeats 1000000 in
theorem lays_walk (W : World) (a : List UInt8) (va : Value) (hA : Sl EB W va a) (b : List UInt8) (vb : Value) (hB : Sl EB W vb b) (x : Int) (h0 : 0 ≤ x) (h1 : x ≤ 18446744073709551615) :
    Calls Try.prog 3 #[va, vb, .int .u64 x] W fun e w' => e = .returned (.bool true) ∧ Below W.heap.size W w' := by
  by_cases hla : a.length ≤ 3000
  · by_cases hlb : b.length ≤ 3000
    · exact lays_main a b va vb x h0 h1 W hA hB hla hlb
    · obtain ⟨aa, ca, hv, _⟩ := hA.ex
      subst hv
      obtain ⟨ab, cb, hv, _⟩ := hB.ex
      subst hv
      clear hA hB
      go_enter Try.func3, Try.ntmps3
      go_wp2_with fail
      refine (wakes_any _).mono ?_
      rintro e w1 ⟨rfl, hb⟩
      have B1 := Lib.hid hb; clear hb
      go_wp2_with fail
      go_ret
      exact ⟨rfl, B1.out⟩
  · obtain ⟨aa, ca, hv, _⟩ := hA.ex
    subst hv
    obtain ⟨ab, cb, hv, _⟩ := hB.ex
    subst hv
    clear hA hB
    go_enter Try.func3, Try.ntmps3
    go_wp2_with fail
    refine (wakes_any _).mono ?_
    rintro e w1 ⟨rfl, hb⟩
    have B1 := Lib.hid hb; clear hb
    go_wp2_with fail
    go_ret
    exact ⟨rfl, B1.out⟩
end Go.Proofs.Ytclhhnmafmicpaa
