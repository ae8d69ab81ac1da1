/- Walk: SumOpened. Conditions: as each theorem states them. -/
import Derived.Test.YtclhhnmafmicpaaWSumU
namespace Go.Proofs.Ytclhhnmafmicpaa
open Go.RowKit
set_option linter.unusedVariables false

theorem open_turned (l : List UInt8) (k : Nat) (hk : k < (sealS l).length) (c : UInt8) (hc : c ≠ (sealS l)[k]) : openS ((sealS l).set k c) = ([], 130) := by
  have hl := seal_len l
  have hl2 : ((sealS l).set k c).length = l.length + 4 := by rw [List.length_set, hl]
  unfold openS
  rw [if_neg (by omega), hl2, Nat.add_sub_cancel]
  have hne : numB (((sealS l).set k c).drop l.length) ≠ sumS (((sealS l).set k c).take l.length) := by
    intro he
    have h1 := (seal_iff ((sealS l).set k c) (by omega)).2 (by rw [hl2, Nat.add_sub_cancel]; exact he)
    rw [hl2, Nat.add_sub_cancel] at h1
    by_cases hkl : k < l.length
    · have e1 : ((sealS l).set k c).take l.length = l.set k c := by
        rw [List.take_set]; unfold sealS; rw [List.take_left']; rfl
      have e2 : ((sealS l).set k c).drop l.length = hi (sumS l) 4 := by
        rw [List.drop_set_of_lt hkl]; unfold sealS; rw [List.drop_left']; rfl
      rw [e1, e2, numB_hi, Nat.mod_eq_of_lt (by have := sumS_lt l; rw [show (256 : Nat) ^ 4 = 4294967296 by decide]; exact this)] at he
      have h3 := (sum_turned l k hkl c).1 he.symm
      apply hc
      rw [h3]
      simp [sealS, List.getElem_append_left hkl]
    · have e1 : ((sealS l).set k c).take l.length = l := by
        rw [List.take_set_of_le (by omega)]; unfold sealS; rw [List.take_left']; rfl
      rw [e1] at h1
      apply hc
      have := congrArg (·[k]?) h1
      simp only [List.getElem?_set_self hk, List.getElem?_eq_getElem hk, Option.some.injEq] at this
      exact this.symm
  rw [if_pos hne]

set_option maxHeartbeats 2000000 in
set_option maxRecDepth 100000 in
theorem sumopened_main (W : World) (b : List UInt8) (vb : Value) (hB : Sl EB W vb b) (x : Int) (hx0 : -9223372036854775808 ≤ x) (hx1 : x ≤ 9223372036854775807) (y : Int) (hy0 : 0 ≤ y) (hy1 : y ≤ 255) (hl : b.length ≤ 5000) :
    Calls Try.prog 13 #[vb, .int .i64 x, .int .u8 y] W fun e w' => e = .returned (.bool true) ∧ Below W.heap.size W w' := by
  obtain ⟨ab, cb, hv, -⟩ := hB.ex
  subst hv
  have HB := Lib.hid hB
  clear hB
  have hsl := seal_len b
  have hop := open_seal b
  have hot := open_turned b
  obtain ⟨s, hs⟩ : ∃ s, sealS b = s := ⟨_, rfl⟩
  rw [hs] at hsl hop hot
  have HS := Lib.hid hs
  clear hs
  have HOP := Lib.hid hop; have HOT := Lib.hid hot
  obtain ⟨u, hu⟩ : ∃ u : Nat, IntKind.u64.wrap x = (u : Int) := by
    refine ⟨(IntKind.u64.wrap x).toNat, ?_⟩
    rw [IntKind.wrap_u64]; omega
  have hu1 : (u : Int) ≤ 18446744073709551615 := by rw [← hu, IntKind.wrap_u64]; omega
  obtain ⟨k, hku⟩ : ∃ k : Nat, u % s.length = k := ⟨_, rfl⟩
  have hk : k < s.length := by rw [← hku]; exact Nat.mod_lt _ (by omega)
  have hkk : (u : Int) % (s.length : Int) = (k : Int) := by rw [← hku]; rfl
  obtain ⟨c, hc1, hc2⟩ := xor_u8 s[k] y hy0 hy1
  have HC2 := Lib.hid hc2
  have hq : ((s.length : Int) != (b.length : Int) + 4) = false := by rw [bne_eq_false_iff_eq]; omega
  have hsl2 : s.length ≤ 5004 := by omega
  have hsl3 : 0 < s.length := by omega
  clear hop hot hku hc2 hsl
  go_enter Try.func13, Try.ntmps13
  go_wp2_with fail
  refine (wakes3_any _).mono ?_
  rintro e w1 ⟨rfl, hb⟩
  have X1 := Lib.hid hb
  clear hb
  go_wp2_with fail
  refine (seal_any b _ _ (HB.out.le X1.out) (by omega)).mono ?_
  rintro e w2 ⟨v2, rfl, ho, hb⟩
  rw [HS.out] at ho
  have X2 := Lib.hid (bt X1.out hb); have O2 := Lib.hid ho
  obtain ⟨g, cap, rfl, hg1, hg2, hg3, hg4⟩ := ho.byte k hk
  have OC := Lib.hid (hg4 c)
  have G2 := Lib.hid (And.intro hg2 hg3)
  have hgw : W.heap.size ≤ g := by have := X1.out.size; omega
  have hgl : g < w2.heap.size := (ho.lt g rfl).2
  clear ho hb hg2 hg3 hg4
  go_wp2_with fail
  refine (open_any s _ _ O2.out.sl (by omega)).mono ?_
  rintro e w3 ⟨v3, he, ho, hb⟩
  rw [HOP.out] at he ho
  subst he
  obtain ⟨a3, c3, hv, -⟩ := ho.sl.ex
  subst hv
  have X3 := Lib.hid (bt X2.out hb); have O3 := Lib.hid (O2.out.le hb); have V3 := Lib.hid ho
  have hg2 := (hb.cell (p := ⟨g, k, none⟩) hgl).trans G2.out.1
  have hg3 := (hb.frozen (p := ⟨g, k, none⟩) hgl).trans G2.out.2
  have OC3 := Lib.hid (O3.out.byte k hk)
  clear ho hb
  go_wp2_with fail
  refine (bequal_any b b _ _ _ V3.out.sl (HB.out.le X3.out)).mono ?_
  rintro e w4 ⟨he, rfl⟩
  obtain rfl := ret_true he rfl
  clear he
  by_cases h0 : y = 0
  · subst h0
    clear hg2 hg3
    go_wp2_with fail
    go_ret
    exact ⟨rfl, X3.out⟩
  · have hy : (y == 0) = false := by simp only [beq_eq_false_iff_ne, ne_eq]; exact h0
    have HT := Lib.hid (HOT.out k hk c (fun h => h0 (HC2.out.1 h)))
    clear h0
    go_wp2_with fail
    have hz : Own EB (w3.setCell ⟨g, k, none⟩ (.int .u8 (c.toNat : Int))) w1.heap.size (.slice (some ⟨g, 0, none⟩) s.length cap) (s.set k c) := by
      obtain ⟨g', cap', hv, -, -, -, h⟩ := OC3.out
      simp only [Value.slice.injEq, Option.some.injEq, Addr.mk.injEq] at hv
      obtain ⟨⟨rfl, -⟩, -, rfl⟩ := hv
      exact h c
    have OZ := Lib.hid hz
    have X4 := Lib.hid (X3.out.setCell (p := ⟨g, k, none⟩) (by exact hgw) (.int .u8 (c.toNat : Int)))
    clear hz hg2 hg3
    refine (open_any (s.set k c) _ _ (by simpa using OZ.out.sl) (by rw [List.length_set]; omega)).mono ?_
    rintro e w5 ⟨v5, he, ho, hb⟩
    rw [HT.out] at he ho
    subst he
    obtain ⟨a5, c5, hv, -⟩ := ho.sl.ex
    subst hv
    have X5 := Lib.hid (bt X4.out hb)
    clear ho hb
    go_wp2_with fail
    go_ret
    exact ⟨rfl, X5.out⟩

theorem sumopened_walk (W : World) (b : List UInt8) (vb : Value) (hB : Sl EB W vb b) (x : Int) (hx0 : -9223372036854775808 ≤ x) (hx1 : x ≤ 9223372036854775807) (y : Int) (hy0 : 0 ≤ y) (hy1 : y ≤ 255) :
    Calls Try.prog 13 #[vb, .int .i64 x, .int .u8 y] W fun e w' => e = .returned (.bool true) ∧ Below W.heap.size W w' := by
  by_cases hl : b.length ≤ 5000
  · exact sumopened_main W b vb hB x hx0 hx1 y hy0 hy1 hl
  · obtain ⟨ab, cb, hv, -⟩ := hB.ex
    subst hv
    clear hB
    go_enter Try.func13, Try.ntmps13
    go_wp2_with fail
    refine (wakes3_any _).mono ?_
    rintro e w1 ⟨rfl, hb⟩
    have X1 := Lib.hid hb
    clear hb
    go_wp2_with fail
    go_ret
    exact ⟨rfl, X1.out⟩
end Go.Proofs.Ytclhhnmafmicpaa
