/- Walks: chapter 03 wakes; SumIs. Conditions: as each theorem states them. -/
import Derived.Test.YtclhhnmafmicpaaS2
import Derived.Lib.SlBytesConst
namespace Go.Proofs.Ytclhhnmafmicpaa
open Go.RowKit
set_option linter.unusedVariables false

/-- a row that has just been made, marked or not -/
theorem Sl.made {α : Type} (E : Enc α) (w : World) (l : List α) (C : Array Value) (hC : C = (l.flatMap E.f).toArray) (hl : l.length ≤ maxLen) (t : TypeId) (fz : Nat × Nat) (n : Nat) (hn : n = l.length) :
    Sl E (w.alloc (.cells C t fz)) (.slice (some ⟨w.heap.size, 0, none⟩) n n) l := by
  subst hC hn
  refine ⟨some ⟨w.heap.size, 0, none⟩, l.length, rfl, Nat.le_refl _, hl, (fun h => by cases h), fun x hx => ?_⟩
  obtain rfl := Option.some.inj hx
  refine ⟨rfl, by simp, fun i hi j u hu => ?_⟩
  have hj : j < E.sz := by
    have := (List.getElem?_eq_some_iff.1 hu).1
    rwa [E.len] at this
  rw [cell_of_row _ w.heap.size _ _ t fz (heap_alloc_new w _)]
  simp only [Nat.zero_add, List.getElem?_toArray]
  rw [E.flat_get l i hi j hj]
  exact hu

set_option maxHeartbeats 1000000 in
theorem wakes3_any (w : World) : Calls Try.prog 36 #[] w fun e w' => e = .returned (.bool true) ∧ Below w.heap.size w w' := by
  have HO := Lib.hid (Sl.made EB w [97, 98, 99] #[.int .u8 97, .int .u8 98, .int .u8 99] rfl (by simp [maxLen]) 5 (3, 4) 3 rfl)
  have e1 := Lib.hid (show sumS [97, 98, 99] = 589 * 65536 + 295 by decide)
  have e2 := Lib.hid (show sumS [] = 1 by decide)
  have e3 := Lib.hid (open_seal [7])
  have kc := fun (w : World) (C : Array Value) (n c : Nat) => Lib.run_convert_bytes_const (P := Try.prog) w 22 5 C n c Try.underlying22 Try.underlying5
  go_enter Try.func36, Try.ntmps36
  go_wp2_with fail
  refine (sum32_any [97, 98, 99] _ _ HO.out (by decide)).mono ?_
  rintro e w1 ⟨he, hb⟩
  rw [e1.out] at he
  subst he
  have X1 := Lib.hid (bt (below_alloc w _) hb)
  clear hb
  go_wp2_with fail
  refine (parts_any (589 * 65536 + 295) _ (by decide)).mono ?_
  rintro e w2 ⟨he, rfl⟩
  obtain rfl : e = .returned (.tuple #[.int .u32 589, .int .u32 295]) := he
  have HO2 := Lib.hid (Own.made EB w1 [7] #[.int .u8 7] rfl (by simp [maxLen]) w1.heap.size (Nat.le_refl _) 1 rfl)
  go_wp2_with fail
  refine (seal_any [7] _ _ HO2.out.sl (by decide)).mono ?_
  rintro e w3 ⟨v3, rfl, ho, hb⟩
  have O3 := Lib.hid ho; have X3 := Lib.hid (bt (bt X1.out (below_alloc w1 _)) hb)
  clear ho hb
  go_wp2_with fail
  refine (open_any (sealS [7]) _ _ O3.out.sl (by decide)).mono ?_
  rintro e w4 ⟨v4, he, ho, hb⟩
  rw [e3.out] at he ho
  subst he
  obtain ⟨a, cap, hv, _, _, h3, h4⟩ := ho.sl.byte
  subst hv
  obtain ⟨b, off, rfl, hbl, hc⟩ := h4 0 (by simp)
  have hc0 := hc 0 (by simp)
  simp only [Nat.add_zero, List.getElem_cons_zero] at hc0
  have X4 := Lib.hid (bt X3.out hb)
  clear ho hb h3 h4 hc
  have hone : (([7] : List UInt8).length) = 1 := rfl
  go_wp2_with fail
  refine (sum32_any [] _ _ (Sl.nil _ _) (by decide)).mono ?_
  rintro e w5 ⟨he, hb⟩
  rw [e2.out] at he
  subst he
  have hc5 := (hb.cell (p := ⟨b, off, none⟩) hbl).trans hc0
  have X5 := Lib.hid (bt X4.out hb)
  clear hb hc0
  go_wp2_with fail
  go_ret
  exact ⟨rfl, X5.out⟩

set_option maxHeartbeats 1000000 in
theorem sumis_walk (W : World) (b : List UInt8) (vb : Value) (hB : Sl EB W vb b) (x : Int) (h0 : 0 ≤ x) (h1 : x ≤ 4294967295) :
    Calls Try.prog 9 #[vb, .int .u32 x] W fun e w' => e = .returned (.bool true) ∧ Below W.heap.size W w' := by
  obtain ⟨n, rfl⟩ := Int.eq_ofNat_of_zero_le h0
  obtain ⟨aa, ca, hv, _⟩ := hB.ex
  subst hv
  have HB := Lib.hid hB
  have hs := sumS_lt b
  clear hB
  by_cases hl : b.length ≤ 600
  · go_enter Try.func9, Try.ntmps9
    go_wp2_with fail
    refine (wakes3_any _).mono ?_
    rintro e w1 ⟨rfl, hb⟩
    have X1 := Lib.hid hb
    clear hb
    go_wp2_with fail
    refine (both_any b [] _ _ _ (HB.out.le X1.out) (Sl.nil _ _) (by omega) (by simp)).mono ?_
    rintro e w2 ⟨v2, rfl, ho, hb⟩
    rw [List.append_nil] at ho
    have O2 := Lib.hid ho; have X2 := Lib.hid (bt X1.out hb)
    clear ho hb
    go_wp2_with fail
    refine (parts_any n _ (by omega)).mono ?_
    rintro e w3 ⟨rfl, rfl⟩
    go_wp2_with fail
    refine (sum32_any b _ _ (HB.out.le X2.out) (by omega)).mono ?_
    rintro e w3 ⟨rfl, hb⟩
    have O3 := Lib.hid (O2.out.sl.le hb); have X3 := Lib.hid (bt X2.out hb)
    clear hb
    go_wp2_with fail
    refine (refsum_any b _ _ O3.out (by omega)).mono ?_
    rintro e w4 ⟨rfl, rfl⟩
    go_wp2_with fail
    refine (same_any b b _ _ _ (HB.out.le X3.out) O3.out (by omega)).mono ?_
    rintro e w5 ⟨he, hb⟩
    obtain rfl := ret_true he rfl
    have X4 := Lib.hid (bt X3.out hb)
    clear he hb
    go_wp2_with fail
    go_ret
    exact ⟨rfl, X4.out⟩
  · go_enter Try.func9, Try.ntmps9
    go_wp2_with fail
    refine (wakes3_any _).mono ?_
    rintro e w1 ⟨rfl, hb⟩
    have X1 := Lib.hid hb
    clear hb
    go_wp2_with fail
    go_ret
    exact ⟨rfl, X1.out⟩
end Go.Proofs.Ytclhhnmafmicpaa
