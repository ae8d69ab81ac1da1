/- Walks: headraceref08.Same, headracelaw08.op, few, wakes. Conditions: as each theorem states them. -/
import Derived.Test.YtipblkdekppbfaaH
namespace Go.Proofs.Ytipblkdekppbfaa
open Go.RowKit
set_option linter.unusedVariables false

theorem ret_true {e : Ending} {b : Prop} [Decidable b] (h : e = .returned (.bool (decide b))) (hb : b) : e = .returned (.bool true) := by rw [h, decide_eq_true hb]
theorem ret_false {e : Ending} {b : Prop} [Decidable b] (h : e = .returned (.bool (decide b))) (hb : ¬ b) : e = .returned (.bool false) := by rw [h, decide_eq_false hb]

set_option maxHeartbeats 1000000 in
theorem same_any (a b : List Int) (va vb : Value) (w : World) (hA : Sl EI w va a) (hB : Sl EI w vb b) :
   Calls Try.prog 15 #[va, vb] w fun e w' => e = .returned (.bool (decide (a = b))) ∧ Below w.heap.size w w' := by
  obtain ⟨aa, ca, rfl, a1, a2, -, a4⟩ := hA.num
  obtain ⟨ab, cb, rfl, b1, b2, -, b4⟩ := hB.num
  have HA := Lib.hid a4
  have HB := Lib.hid b4
  have hla : a.length ≤ 9223372036854775807 := by unfold maxLen at a2; omega
  clear a4 b4 hA hB
  by_cases hl : a.length = b.length
  · have hl' : ((a.length : Int) != (b.length : Int)) = false := by simp [hl]
    have HL := Lib.hid hl
    have hlb : a.length ≤ b.length := by omega
    clear hl
    go_enter Try.func15, Try.ntmps15
    go_wp2_with fail
    go_loopw [13] (fun i wr => ∃ k : Nat, k ≤ a.length ∧ i = .int .i64 k ∧ a.take k = b.take k ∧ Below w.heap.size w wr) (fun i _ => a.length - (intOf i).toNat)
    case atStart => exact ⟨0, Nat.zero_le _, rfl, by simp, Below.refl _ _⟩
    case round =>
      obtain ⟨k, hk, rfl, htk, hb⟩ := hrel
      by_cases hlt : k < a.length
      · have hlt2 : k < b.length := by omega
        obtain ⟨ba, oa, rfl, hbl1, hc1⟩ := HA.out k hlt
        obtain ⟨bb, ob, rfl, hbl2, hc2⟩ := HB.out k hlt2
        have hc1' : wr.cell? ⟨ba, oa + k, none⟩ = some (.int .i64 a[k]) := by rw [hb.cell (by exact hbl1)]; exact hc1 k hlt
        have hc2' : wr.cell? ⟨bb, ob + k, none⟩ = some (.int .i64 b[k]) := by rw [hb.cell (by exact hbl2)]; exact hc2 k hlt2
        have HT := Lib.hid htk
        have HS := Lib.hid (take_snoc a k hlt)
        have HS2 := Lib.hid (take_snoc b k hlt2)
        have HBb := Lib.hid hb
        obtain ⟨x, hx⟩ : ∃ x, a[k] = x := ⟨_, rfl⟩
        obtain ⟨y, hy⟩ : ∃ y, b[k] = y := ⟨_, rfl⟩
        rw [hx] at hc1'
        rw [hy] at hc2'
        have HX := Lib.hid hx; have HY := Lib.hid hy
        clear htk hc1 hc2 hb hx hy
        by_cases heq : x = y
        · have hne : (x != y) = false := by simp [heq]
          have HQ := Lib.hid heq
          clear heq
          go_wp2_with fail
          go_quiet (fail)
          go_wp2_with fail
          go_roundw
          case rel => exact ⟨k + 1, hlt, by go_num, by rw [HS.out, HS2.out, HT.out, HX.out, HY.out, HQ.out], below_drewN HBb.out _⟩
          case measure => simp [intOf]; omega
        · have hne : (x != y) = true := by simp [heq]
          have HQ := Lib.hid heq
          clear heq
          go_wp2_with fail
          go_quiet (fail)
          go_wp2_with fail
          go_ret
          have e : decide (a = b) = false := decide_eq_false (by intro h; subst h; exact HQ.out (HX.out.symm.trans HY.out))
          exact ⟨by rw [e]; rfl, below_drewN HBb.out _⟩
      · obtain rfl : k = a.length := by omega
        have HT := Lib.hid htk
        have HBb := Lib.hid hb
        clear htk hb
        go_wp2_with fail
        go_ret
        have e : decide (a = b) = true := decide_eq_true (by
          have := HT.out
          rw [List.take_length, HL.out, List.take_length] at this
          exact this)
        exact ⟨by rw [e]; rfl, HBb.out⟩
  · have hl' : ((a.length : Int) != (b.length : Int)) = true := by simp; omega
    have HL := Lib.hid hl
    clear hl
    go_enter Try.func15, Try.ntmps15
    go_wp2_with fail
    go_ret
    have e : decide (a = b) = false := decide_eq_false (by intro h; exact HL.out (by rw [h]))
    exact ⟨by rw [e]; rfl, Below.refl _ _⟩

set_option maxHeartbeats 1000000 in
theorem few_any (l : List Int) (v : Value) (w : World) (hV : Sl EI w v l) :
    Calls Try.prog 12 #[v] w fun e w' => ∃ v', e = .returned v' ∧ Own EI w' w.heap.size v' (l.take 41) ∧ Below w.heap.size w w' := by
  obtain ⟨a, cap, hv, hlc, hcm, -⟩ := hV.ex
  subst hv
  have hll : l.length ≤ 9223372036854775807 := by unfold maxLen at hcm; omega
  obtain ⟨m, hm, hm2⟩ : ∃ m : Nat, m = min l.length 41 ∧ (if (41 : Int) < (l.length : Int) then (41 : Int) else (l.length : Int)) = (m : Int) := ⟨_, rfl, by split <;> omega⟩
  have ht : l.take m = l.take 41 := by rw [hm]; by_cases h : l.length ≤ 41 <;> simp [List.take_of_length_le, h] <;> omega
  obtain ⟨hs1, hs2⟩ := hV.slice_hi eI (t := 29) Try.underlying29 .i64 (m : Int) (by omega) (by omega)
  simp only [Int.toNat_natCast] at hs1 hs2
  have HS := Lib.hid hs2
  have HO := Lib.hid (Own.made EI w [] #[] rfl (by simp [maxLen]) w.heap.size (Nat.le_refl _) 0 rfl)
  have hml : (l.take m).length ≤ 41 := by rw [List.length_take]; omega
  have HT := Lib.hid ht; have HM := Lib.hid hm
  clear hs2 hV ht hm
  go_enter Try.func12, Try.ntmps12
  go_wp2_with (at_builtin; go_must (refine wpl_app eI HO.out (HS.out.le (below_alloc w _)) rfl rfl Try.underlying29 rfl rfl (by simp [maxLen]; omega) (by simp [encI]; omega) (by simp) ?_; intro v1 w1 hown1 hb1 hg1))
  go_ret
  exact ⟨_, rfl, by rw [← HT.out]; simpa using hown1, ((below_alloc w _).trans (hb1.mono (Nat.le_refl _)))⟩

set_option maxHeartbeats 2000000 in
set_option maxRecDepth 100000 in
theorem wakes_any (w : World) : Calls Try.prog 10 #[] w fun e w' => e = .returned (.bool true) ∧ Below w.heap.size w w' := by
  have e1 : ∀ a : Option Addr, runS ⟨5, 1, a, 1, 1, 2, 0⟩ [0] ⟨0, 0⟩ [2, 3, 4] = (⟨1, 4⟩, [5], 0) := fun a => by kernel_rfl
  have e2 : ∀ a : Option Addr, runS ⟨3, 1, a, 1, 1, 0, 0⟩ [0] ⟨0, 0⟩ [1] = (⟨0, 0⟩, [], 180) := fun a => by kernel_rfl
  have e3 : modS (-7) 3 = 2 := by kernel_rfl
  have E1 := Lib.hid e1; have E2 := Lib.hid e2; have E3 := Lib.hid e3
  clear e1 e2 e3
  have M1 := Own.made EN w [0] #[.int .i64 0] rfl (by simp [maxLen]) 0 (Nat.zero_le _) 1 rfl
  have M2 := Own.made EI (w.alloc (.cells #[.int .i64 0] 3)) [2, 3, 4] #[.int .i64 2, .int .i64 3, .int .i64 4] rfl (by simp [maxLen]) 0 (Nat.zero_le _) 3 rfl
  have A2 := below_alloc (w.alloc (.cells #[.int .i64 0] 3)) (.cells #[.int .i64 2, .int .i64 3, .int .i64 4] 2)
  have S1 := Lib.hid (M1.sl.le A2); have S2 := Lib.hid (show Sl EI ((w.alloc (.cells #[.int .i64 0] 3)).alloc (.cells #[.int .i64 2, .int .i64 3, .int .i64 4] 2)) (.slice (some ⟨w.heap.size + 1, 0, none⟩) 3 3) [2, 3, 4] from by have h := M2.sl; simp only [World.size_alloc] at h; exact h)
  have B2 := Lib.hid (bt (below_alloc w (.cells #[.int .i64 0] 3)) A2)
  clear M1 M2 A2
  go_enter Try.func10, Try.ntmps10
  go_wp2_with fail
  refine (Run_any ⟨5, 1, some ⟨w.heap.size, 0, none⟩, 1, 1, 2, 0⟩ [0] ⟨0, 0⟩ [2, 3, 4] _ _ (by simp [OpD.ok, i64b]) S1.out (by simp [i64b]) (by simp [CellD.ok, i64b]) S2.out (by simp [i64b]) (by simp)).mono ?_
  rintro e w1 ⟨v1, he, ho, hb⟩
  simp only [List.length_cons, List.length_nil, Nat.reduceAdd, Nat.reduceLT, if_false, E1.out] at he ho
  subst he
  obtain ⟨a1, c1, hv, -⟩ := ho.sl.ex
  subst hv
  have X1 := Lib.hid (bt B2.out hb); have O1 := Lib.hid ho
  clear ho hb
  have N1 := heap_alloc_new w1 (.cells #[.int .i64 1, .int .i64 4] 26)
  have A3 := below_alloc w1 (.cells #[.int .i64 1, .int .i64 4] 26)
  have M3 := Own.made EN (w1.alloc (.cells #[.int .i64 1, .int .i64 4] 26)) [0] #[.int .i64 0] rfl (by simp [maxLen]) 0 (Nat.zero_le _) 1 rfl
  have A4 := below_alloc (w1.alloc (.cells #[.int .i64 1, .int .i64 4] 26)) (.cells #[.int .i64 0] 3)
  have N2 := Lib.hid (blk_le N1 A4); have X2 := Lib.hid (bt (bt X1.out A3) A4); have O2 := Lib.hid (O1.out.le (bt A3 A4))
  have S3 := Lib.hid (show Sl EN ((w1.alloc (.cells #[.int .i64 1, .int .i64 4] 26)).alloc (.cells #[.int .i64 0] 3)) (.slice (some ⟨w1.heap.size + 1, 0, none⟩) 1 1) [0] from by have h := M3.sl; simp only [World.size_alloc] at h; exact h)
  clear N1 A3 M3 A4
  go_wp2_with fail
  refine (Do_any ⟨3, 1, some ⟨w1.heap.size + 1, 0, none⟩, 1, 1, 0, 0⟩ [0] ⟨0, 0⟩ 1 _ (by simp [OpD.ok, i64b]) S3.out (by simp [i64b]) (by simp [CellD.ok, i64b]) (by simp [i64b])).mono ?_
  rintro e w2 ⟨v2, he, ho, hb⟩
  rw [E2.out] at he ho
  subst he
  obtain ⟨a2, c2, hv, -⟩ := ho.sl.ex
  subst hv
  have X3 := Lib.hid (bt X2.out hb); have N3 := Lib.hid (blk_le N2.out hb); have O3 := Lib.hid (O2.out.le hb)
  clear ho hb
  have A5 := below_alloc w2 (.cells #[.int .i64 0, .int .i64 0] 26)
  have A6 := below_alloc (w2.alloc (.cells #[.int .i64 0, .int .i64 0] 26)) (.cells #[.int .i64 5] 2)
  have M5 := Own.made EI (w2.alloc (.cells #[.int .i64 0, .int .i64 0] 26)) [5] #[.int .i64 5] rfl (by simp [maxLen]) 0 (Nat.zero_le _) 1 rfl
  have S5 := Lib.hid (show Sl EI ((w2.alloc (.cells #[.int .i64 0, .int .i64 0] 26)).alloc (.cells #[.int .i64 5] 2)) (.slice (some ⟨w2.heap.size + 1, 0, none⟩) 1 1) [5] from by have h := M5.sl; simp only [World.size_alloc] at h; exact h)
  obtain ⟨r1, -⟩ := blk (blk_le N3.out A5)
  obtain ⟨r2, -⟩ := blk N3.out
  have hwl := lt_of_block N3.out
  have X4 := Lib.hid (bt (bt X3.out A5) A6); have O4 := Lib.hid (O3.out.le (bt A5 A6))
  clear A5 A6 M5
  go_wp2_with fail
  refine (same_any [5] [5] _ _ _ O4.out.sl S5.out).mono ?_
  rintro e w3 ⟨he, hb⟩
  obtain rfl := ret_true he rfl
  have X5 := Lib.hid (bt X4.out hb)
  clear he hb r1 r2
  go_wp2_with fail
  refine (mod16_any (-7) 3 (by simp [i64b]) (by simp [i64b]) _).mono ?_
  rintro e w4 ⟨he, rfl⟩
  rw [E3.out] at he
  subst he
  go_wp2_with fail
  go_ret
  exact ⟨rfl, X5.out⟩
end Go.Proofs.Ytipblkdekppbfaa
