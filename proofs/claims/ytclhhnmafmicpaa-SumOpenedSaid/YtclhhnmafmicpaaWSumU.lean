/- Walk: SumTurned. Conditions: as each theorem states them. -/
import Derived.Test.YtclhhnmafmicpaaWSumT
import Derived.Deep.CutBlock
import Derived.IntWalk
namespace Go.Proofs.Ytclhhnmafmicpaa
open Go.RowKit
set_option linter.unusedVariables false

theorem xor_u8 (x : UInt8) (y : Int) (h0 : 0 ≤ y) (h1 : y ≤ 255) : ∃ c : UInt8, bits BinOp.xor IntKind.u8 (x.toNat : Int) y = (c.toNat : Int) ∧ (c = x ↔ y = 0) := by
  obtain ⟨n, rfl⟩ := Int.eq_ofNat_of_zero_le h0
  have h := u8_xor_nat x.toNat n x.toNat_lt (by omega)
  have hx : x.toNat ^^^ n < 2 ^ 8 := Nat.xor_lt_two_pow x.toNat_lt (by omega)
  refine ⟨UInt8.ofNat (x.toNat ^^^ n), ?_, ?_⟩
  · rw [UInt8.toNat_ofNat', Nat.mod_eq_of_lt hx]; exact h
  · rw [← UInt8.toNat_inj, UInt8.toNat_ofNat', Nat.mod_eq_of_lt hx]
    constructor
    · intro e
      have : x.toNat ^^^ (x.toNat ^^^ n) = x.toNat ^^^ x.toNat := by rw [e]
      rw [← Nat.xor_assoc, Nat.xor_self, Nat.zero_xor] at this
      omega
    · intro e
      have : n = 0 := by omega
      subst this; simp

set_option maxHeartbeats 2000000 in
set_option maxRecDepth 100000 in
theorem sumturned_main (W : World) (b : List UInt8) (vb : Value) (hB : Sl EB W vb b) (x : Int) (hx0 : -9223372036854775808 ≤ x) (hx1 : x ≤ 9223372036854775807) (y : Int) (hy0 : 0 ≤ y) (hy1 : y ≤ 255) (hl0 : 0 < b.length) (hl : b.length ≤ 5000) :
    Calls Try.prog 11 #[vb, .int .i64 x, .int .u8 y] W fun e w' => e = .returned (.bool true) ∧ Below W.heap.size W w' := by
  obtain ⟨ab, cb, rfl, -, -, -, hcs0⟩ := hB.byte
  have HB := Lib.hid hB
  clear hB
  obtain ⟨bb, oo, rfl, hbl, hcs⟩ := hcs0 0 hl0
  have HCS := Lib.hid hcs
  clear hcs hcs0
  obtain ⟨u, hu⟩ : ∃ u : Nat, IntKind.u64.wrap x = (u : Int) := by
    refine ⟨(IntKind.u64.wrap x).toNat, ?_⟩
    rw [IntKind.wrap_u64]; omega
  have hu1 : (u : Int) ≤ 18446744073709551615 := by rw [← hu, IntKind.wrap_u64]; omega
  obtain ⟨k, hku⟩ : ∃ k : Nat, u % b.length = k := ⟨_, rfl⟩
  have hk : k < b.length := by rw [← hku]; exact Nat.mod_lt _ hl0
  have hkk : (u : Int) % (b.length : Int) = (k : Int) := by rw [← hku]; rfl
  have hn0 : ((b.length : Int) == 0) = false := by simp only [beq_eq_false_iff_ne, ne_eq]; omega
  have HKU := Lib.hid hku
  clear hku
  obtain ⟨c, hc1, hc2⟩ := xor_u8 b[k] y hy0 hy1
  have hcy : (((sumS (b.set k c) : Nat) : Int) == ((sumS b : Nat) : Int)) = (y == 0) := by
    have h1 := sum_turned b k hk c
    rw [Bool.eq_iff_iff, beq_iff_eq, beq_iff_eq, ← hc2, ← h1]
    omega
  have HCY := Lib.hid hcy
  clear hcy hc2
  go_enter Try.func11, Try.ntmps11
  go_wp2_with fail
  refine (wakes3_any _).mono ?_
  rintro e w1 ⟨rfl, hb⟩
  have X1 := Lib.hid hb
  clear hb
  go_wp2_with fail
  refine (clone_any b _ _ (HB.out.le X1.out) (by omega)).mono ?_
  rintro e w2 ⟨v2, rfl, ho, hb⟩
  have X2 := Lib.hid (bt X1.out hb); have Y2 := Lib.hid hb
  obtain ⟨g, cap, rfl, hg1, hg2, hg3, hg4⟩ := ho.byte k hk
  have O2 := Lib.hid (hg4 c)
  clear ho hb hg4
  have hgw : W.heap.size ≤ g := by have := X1.out.size; omega
  go_wp2_with fail
  refine (sum32_any (b.set k c) _ _ (by simpa using O2.out.sl) (by rw [List.length_set]; omega)).mono ?_
  rintro e w3 ⟨rfl, hb⟩
  have X3 := Lib.hid (bt (X2.out.setCell (p := ⟨g, k, none⟩) (by exact hgw) (.int .u8 (c.toNat : Int))) hb)
  clear hb hg2 hg3
  go_wp2_with fail
  refine (sum32_any b _ _ (HB.out.le X3.out) (by omega)).mono ?_
  rintro e w4 ⟨rfl, hb⟩
  have X4 := Lib.hid (bt X3.out hb)
  clear hb
  have hcy := HCY.out
  have hyy : ((y == 0) != (y == 0)) = false := by simp
  by_cases hk2 : k + 1 = b.length
  · have hkq : ((k : Int) + 1 == (b.length : Int)) = true := by rw [beq_iff_eq]; omega
    have HK2 := Lib.hid hk2
    clear hk2
    go_wp2_with fail
    go_ret
    exact ⟨rfl, X4.out⟩
  · have hkq : ((k : Int) + 1 == (b.length : Int)) = false := by simp only [beq_eq_false_iff_ne, ne_eq]; omega
    have hk3 : k + 1 < b.length := by omega
    have h5 := sum_swapped b k hk3
    have h6 : (((sumS ((b.set k b[k + 1]).set (k + 1) b[k]) : Nat) : Int) == ((sumS b : Nat) : Int)) = (((b[k].toNat : Nat) : Int) == ((b[k + 1].toNat : Nat) : Int)) := by
      rw [Bool.eq_iff_iff, beq_iff_eq, beq_iff_eq]
      have : (b[k].toNat : Int) = (b[k + 1].toNat : Int) ↔ b[k] = b[k + 1] := by
        rw [← UInt8.toNat_inj]; omega
      rw [this, ← h5]; omega
    have H6 := Lib.hid h6
    clear hk2 h5 h6
    go_wp2_with fail
    clear hcy hyy
    refine (clone_any b _ _ (HB.out.le X4.out) (by omega)).mono ?_
    rintro e w5 ⟨v5, rfl, ho, hb⟩
    have X5 := Lib.hid (bt X4.out hb)
    obtain ⟨d, cap, rfl, hd1, hd2, hd3, hd4⟩ := ho.byte k hk
    have ho1 := hd4 b[k + 1]
    obtain ⟨d', cap', he, hd1', hd2', hd3', hd4'⟩ := ho.byte (k + 1) hk3
    simp only [Value.slice.injEq, Option.some.injEq, Addr.mk.injEq] at he
    obtain ⟨⟨rfl, -⟩, -, rfl⟩ := he
    obtain ⟨d', cap', he, -, -, -, ho2⟩ := ho1.byte (k + 1) (by rw [List.length_set]; exact hk3)
    simp only [Value.slice.injEq, Option.some.injEq, Addr.mk.injEq] at he
    obtain ⟨⟨rfl, -⟩, -, rfl⟩ := he
    have O5 := Lib.hid (ho2 b[k])
    clear ho hb ho1 ho2 hd4 hd4' hd1'
    go_wp2_with fail
    have K1 := Lib.hid (And.intro hd2 hd2')
    go_region
    go_wp2_with fail
    clear hd2 hd2' hd3 hd3'
    obtain ⟨W0, e0, hw0, ho0⟩ : ∃ W0, W0 = (((w5.setCell ⟨d, k, none⟩ (.int .u8 (b[k + 1].toNat : Int))).setCell ⟨d, k + 1, none⟩ (.int .u8 (b[k].toNat : Int))).drew) ∧ Below W.heap.size W W0 ∧ Own EB W0 w4.heap.size (.slice (some ⟨d, 0, none⟩) b.length cap) ((b.set k b[k + 1]).set (k + 1) b[k]) :=
      ⟨_, rfl, ((X5.out.setCell (p := ⟨d, k, none⟩) (by show W.heap.size ≤ d; have := X4.out.size; omega) (.int .u8 (b[k + 1].toNat : Int))).setCell (p := ⟨d, k + 1, none⟩) (by show W.heap.size ≤ d; have := X4.out.size; omega) (.int .u8 (b[k].toNat : Int))).drew, O5.out⟩
    rw [← e0]
    have f1 := (hw0.cell (p := ⟨bb, oo + k, none⟩) hbl).trans (HCS.out k hk)
    have f2 := (hw0.cell (p := ⟨bb, oo + (k + 1), none⟩) hbl).trans (HCS.out (k + 1) hk3)
    have F1 := Lib.hid (HCS.out k hk); have F2 := Lib.hid (HCS.out (k + 1) hk3)
    have X6 := Lib.hid hw0; have O6 := Lib.hid ho0
    have hll : ((b.set k b[k + 1]).set (k + 1) b[k]).length ≤ 5000 := by rw [List.length_set, List.length_set]; exact hl
    have i1 : (0 : Int) ≤ (k : Int) + 1 := by omega
    have i2 : (k : Int) + 1 < (b.length : Int) := by omega
    have i5 : (k : Int) < (b.length : Int) := by omega
    have i6 : (0 : Int) ≤ (k : Int) := by omega
    have i3 : IntKind.i64.wrap ((k : Int) + 1) = (k : Int) + 1 := IntWalk.i64_in _ (by omega)
    have i4 : ((k : Int) + 1).toNat = k + 1 := by omega
    clear e0 hw0 ho0
    go_region_held3 (fun w' => w'.cell? ⟨bb, oo + k, none⟩ = some (.int .u8 (b[k].toNat : Int)) ∧ w'.cell? ⟨bb, oo + (k + 1), none⟩ = some (.int .u8 (b[k + 1].toNat : Int))) (first | go_keep | exact ⟨y1, y2⟩)
      (first
        | (go_at_call 38; refine (sum32_any ((b.set k b[k + 1]).set (k + 1) b[k]) _ _ (by simpa using O6.out.sl.le (Below.refl _ W0).drew) (by omega)).mono ?_; rintro e w7 ⟨rfl, hb⟩; have X7 := Lib.hid (bt X6.out (bt (Below.refl _ W0).drew hb)); have y1 := (X7.out.cell (p := ⟨bb, oo + k, none⟩) hbl).trans F1.out; have y2 := (X7.out.cell (p := ⟨bb, oo + (k + 1), none⟩) hbl).trans F2.out; clear hb)
        | (go_at_call 38; refine (sum32_any b _ _ (HB.out.le X7.out) (by omega)).mono ?_; rintro e w8 ⟨rfl, hb⟩; have X8 := Lib.hid (bt X7.out hb); have y1 := (X8.out.cell (p := ⟨bb, oo + k, none⟩) hbl).trans F1.out; have y2 := (X8.out.cell (p := ⟨bb, oo + (k + 1), none⟩) hbl).trans F2.out; clear hb))
    have h6 := H6.out
    go_wp2_with fail
    go_ret
    refine ⟨?_, X8.out⟩
    show Ending.returned (.bool ((((sumS ((b.set k b[k + 1]).set (k + 1) b[k]) : Nat) : Int) == ((sumS b : Nat) : Int)) == (((b[k].toNat : Nat) : Int) == ((b[k + 1].toNat : Nat) : Int)))) = _
    rw [h6, beq_self_eq_true]

theorem sumturned_walk (W : World) (b : List UInt8) (vb : Value) (hB : Sl EB W vb b) (x : Int) (hx0 : -9223372036854775808 ≤ x) (hx1 : x ≤ 9223372036854775807) (y : Int) (hy0 : 0 ≤ y) (hy1 : y ≤ 255) :
    Calls Try.prog 11 #[vb, .int .i64 x, .int .u8 y] W fun e w' => e = .returned (.bool true) ∧ Below W.heap.size W w' := by
  by_cases hl0 : b.length = 0
  · obtain ⟨ab, cb, hv, -⟩ := hB.ex
    subst hv
    have hn0 : ((b.length : Int) == 0) = true := by rw [beq_iff_eq]; omega
    clear hB hl0
    go_enter Try.func11, Try.ntmps11
    go_wp2_with fail
    refine (wakes3_any _).mono ?_
    rintro e w1 ⟨rfl, hb⟩
    have X1 := Lib.hid hb
    clear hb
    go_wp2_with fail
    go_ret
    exact ⟨rfl, X1.out⟩
  · by_cases hl : b.length ≤ 5000
    · exact sumturned_main W b vb hB x hx0 hx1 y hy0 hy1 (by omega) hl
    · obtain ⟨ab, cb, hv, -⟩ := hB.ex
      subst hv
      have hn0 : ((b.length : Int) == 0) = false := by simp only [beq_eq_false_iff_ne, ne_eq]; omega
      clear hB hl0
      go_enter Try.func11, Try.ntmps11
      go_wp2_with fail
      refine (wakes3_any _).mono ?_
      rintro e w1 ⟨rfl, hb⟩
      have X1 := Lib.hid hb
      clear hb
      go_wp2_with fail
      go_ret
      exact ⟨rfl, X1.out⟩
end Go.Proofs.Ytclhhnmafmicpaa
