/- Walks: slices.Equal, Grow, Concat over []int64. Conditions: as each theorem states them. -/
import Derived.Test.YtipblkdekppbfaaB
import Derived.Test.YtipblkdekppbfaaP
import Derived.Lib.AppendZerosOnto
import Derived.Deep.CutBlock
namespace Go.Proofs.Ytipblkdekppbfaa
open Go.RowKit Go.Lib
set_option linter.unusedVariables false

set_option maxHeartbeats 1000000 in
theorem grow36_nil (n : Nat) (hn : n ≤ 1000) (w : World) :
    Calls Try.prog 36 #[.slice none 0 0, .int .i64 n] w fun e w' => ∃ v, e = .returned v ∧ Own EI w' w.heap.size v [] ∧ Below w.heap.size w w' := by
  by_cases h0 : n = 0
  · subst h0
    go_enter Try.func36, Try.ntmps36
    go_wp2_with fail
    go_ret
    exact ⟨_, rfl, Own.nil _ _ _, Below.refl _ _⟩
  · obtain ⟨i, z, hi, hz, hs, hb, hzc⟩ := eI
    change Try.prog.info? 2 = some i at hi
    change i.size = 1 at hs
    change i.bytes = 8 at hb
    change z.cells.size = 1 at hzc
    have hrz : ∀ ty, (Builtin.append_ #[29, 3] ty #[.slice none 0 0, .int .i64 (n : Int)]).run Try.prog w =
        .ok (.slice (some ⟨w.heap.size, 0, none⟩) (0 + n) (grownCap w (0 + n) 0 2)) (w.drew.alloc (.cells (#[] ++ Builtin.zeroCells z.cells n ++ Builtin.zeroCells z.cells (grownCap w (0 + n) 0 2 - (0 + n))) 2)) := fun ty => by
      exact Lib.run_append_grow_zeros w 29 3 ty 2 i z .i64 .i64 Try.underlying29 Try.underlying3 hi hz none 0 0 [] (by rw [hs]; exact run_firstCells_none w.drew 1 0 0 0) n (by omega) (by omega) (by omega) (by omega) (by rw [hb]; omega)
        (growslice_fits (by omega) (by rw [hb]; omega))
    have hG1 := grownCap_ge w (0 + n) 0 2
    have hG2 := grownCap_le_maxLen w (0 + n) 0 2 (by unfold maxLen; omega)
    obtain ⟨G, hG⟩ : ∃ G, grownCap w (0 + n) 0 2 = G := ⟨_, rfl⟩
    rw [hG] at hrz hG1 hG2
    have hG63 : G ≤ 9223372036854775807 := by unfold maxLen at hG2; omega
    have hsz : (#[] ++ Builtin.zeroCells z.cells n ++ Builtin.zeroCells z.cells (G - (0 + n))).size = G * 1 := by
      simp [Builtin.zeroCells, hzc]; omega
    generalize (#[] ++ Builtin.zeroCells z.cells n ++ Builtin.zeroCells z.cells (G - (0 + n))) = C at *
    have HB := Lib.hid ((Below.refl w.heap.size w).drew)
    have HG := Lib.hid hG2; have HZ := Lib.hid hsz
    clear hG hi hz hs hb hzc hG2 hsz
    rw [Nat.zero_add] at hrz
    go_enter Try.func36, Try.ntmps36
    go_wp2_with (at_builtin; refine Lib.wpList_append_run _ rfl _ _ _ _ rfl _ _ rfl rfl _ _ (hrz _) ?_)
    go_ret
    exact ⟨_, rfl, ⟨rfl, .inr ⟨w.heap.size, G, C, rfl, Nat.le_refl _, heap_alloc_new w.drew _, Nat.zero_le _, HG.out, HZ.out, rfl⟩⟩, bt HB.out (below_alloc w.drew _)⟩

set_option maxHeartbeats 1000000 in
theorem equal28_same (l : List Int) (va vb : Value) (w : World) (hA : Sl EI w va l) (hB : Sl EI w vb l) :
    Calls Try.prog 28 #[va, vb] w fun e w' => e = .returned (.bool true) ∧ Below w.heap.size w w' := by
  obtain ⟨aa, ca, rfl, a1, a2, -, a4⟩ := hA.num
  obtain ⟨ab, cb, rfl, b1, b2, -, b4⟩ := hB.num
  have HA := Lib.hid a4
  have HB := Lib.hid b4
  have hla : l.length ≤ 9223372036854775807 := by unfold maxLen at a2; omega
  clear a4 b4 hA hB
  go_enter Try.func28, Try.ntmps28
  go_wp2_with fail
  go_loopw [13] (fun i wr => ∃ k : Nat, k ≤ l.length ∧ i = .int .i64 k ∧ Below w.heap.size w wr) (fun i _ => l.length - (intOf i).toNat)
  case atStart => exact ⟨0, Nat.zero_le _, rfl, Below.refl _ _⟩
  case round =>
    obtain ⟨k, hk, rfl, hb⟩ := hrel
    by_cases hlt : k < l.length
    · obtain ⟨ba, oa, rfl, hbl1, hc1⟩ := HA.out k hlt
      obtain ⟨bb, ob, rfl, hbl2, hc2⟩ := HB.out k hlt
      have hc1' : wr.cell? ⟨ba, oa + k, none⟩ = some (.int .i64 l[k]) := by rw [hb.cell (by exact hbl1)]; exact hc1 k hlt
      have hc2' : wr.cell? ⟨bb, ob + k, none⟩ = some (.int .i64 l[k]) := by rw [hb.cell (by exact hbl2)]; exact hc2 k hlt
      have HBb := Lib.hid hb
      obtain ⟨x, hx⟩ : ∃ x, l[k] = x := ⟨_, rfl⟩
      rw [hx] at hc1' hc2'
      clear hc1 hc2 hb hx
      have hne : (x != x) = false := by simp
      go_wp2_with fail
      go_quiet (fail)
      go_wp2_with fail
      go_roundw
      case rel => exact ⟨k + 1, hlt, by go_num, below_drewN HBb.out _⟩
      case measure => simp [intOf]; omega
    · obtain rfl : k = l.length := by omega
      have HBb := Lib.hid hb
      clear hb
      go_wp2_with fail
      go_ret
      exact ⟨rfl, HBb.out⟩

set_option maxHeartbeats 2000000 in
theorem concat29_two (a b : List Int) (va vb : Value) (bb : Nat) (w : World) (hA : Sl EI w va a) (hB : Sl EI w vb b) (hblk : w.heap[bb]? = some (.cells #[va, vb] 29 (0, 0))) (hla : a.length ≤ 400) (hlb : b.length ≤ 400) :
    Calls Try.prog 29 #[.slice (some ⟨bb, 0, none⟩) 2 2] w fun e w' => ∃ v, e = .returned v ∧ Own EI w' w.heap.size v (a ++ b) ∧ Below w.heap.size w w' := by
  have HA := Lib.hid hA; have HB := Lib.hid hB; have HK := Lib.hid hblk
  obtain ⟨aa, ca, hv, -⟩ := hA.ex
  subst hv
  obtain ⟨ab, cb, hv, -⟩ := hB.ex
  subst hv
  obtain ⟨r1, -⟩ := blk hblk
  clear hA hB hblk
  generalize hna : a.length = na at *
  generalize hnb : b.length = nb at *
  have HNA := Lib.hid hna; have HNB := Lib.hid hnb
  clear hna hnb
  go_enter Try.func29, Try.ntmps29
  go_wp2_with fail
  go_loop [11, 3] (fun i s => ∃ k : Nat, k ≤ 2 ∧ i = .int .i64 k ∧ s = .int .i64 (if k = 0 then 0 else if k = 1 then (na : Int) else ((na + nb : Nat) : Int))) (fun i _ => 2 - (intOf i).toNat)
  case atStart => exact ⟨0, Nat.zero_le _, rfl, rfl⟩
  case round =>
    obtain ⟨k, hk, rfl, rfl⟩ := hrel
    rcases (show k = 0 ∨ k = 1 ∨ k = 2 by omega) with rfl | rfl | rfl
    · simp only [if_true]
      go_wp2_with fail
      go_round
      case rel => exact ⟨1, by omega, by go_num, by simp⟩
      case measure => simp [intOf]
    · simp only [if_true, if_false, show ¬ (1 : Nat) = 0 by decide]
      go_wp2_with fail
      go_round
      case rel => exact ⟨2, by omega, by go_num, by simp⟩
      case measure => simp [intOf]
    · simp only [if_false, show ¬ (2 : Nat) = 0 by decide, show ¬ (2 : Nat) = 1 by decide]
      go_wp2_with fail
      refine (grow36_nil (na + nb) (by omega) _).mono ?_
      rintro e w1 ⟨v1, rfl, ho, hb⟩
      have O1 := Lib.hid ho; have X1 := Lib.hid hb
      clear ho hb r1
      go_wp2_with fail
      go_loopw [6, 27] (fun s i wr => ∃ k : Nat, k ≤ 2 ∧ i = .int .i64 k ∧ Own EI wr w.heap.size s (if k = 0 then [] else if k = 1 then a else a ++ b) ∧ Below w.heap.size w wr) (fun _ i _ => 2 - (intOf i).toNat)
      case atStart => exact ⟨0, Nat.zero_le _, rfl, O1.out, X1.out⟩
      case round =>
        obtain ⟨k, hk, rfl, ho, hb⟩ := hrel
        have XB := Lib.hid hb
        have hwz := hb.size
        obtain ⟨r1, -⟩ := blk (blk_le HK.out hb)
        obtain ⟨p, q, hv, -⟩ := ho.sl.ex
        rcases (show k = 0 ∨ k = 1 ∨ k = 2 by omega) with rfl | rfl | rfl
        · simp only [if_true] at ho hv
          subst hv
          have HO := Lib.hid ho
          clear ho hb
          go_wp2_with (at_builtin; go_must (refine wpl_app eI HO.out (HA.out.le XB.out) rfl rfl Try.underlying29 rfl rfl (by rw [HNA.out]; simp [maxLen]; omega) (by rw [HNA.out]; simp [encI]; omega) hwz ?_; intro v1 w1 hown1 hb1 hg1))
          go_roundw
          case rel => exact ⟨1, by omega, by go_num, by simpa using hown1, XB.out.trans hb1⟩
          case measure => simp [intOf]
        · simp only [if_true, if_false, show ¬ (1 : Nat) = 0 by decide] at ho hv
          subst hv
          have HO := Lib.hid ho
          clear ho hb
          go_wp2_with (at_builtin; go_must (refine wpl_app eI HO.out (HB.out.le XB.out) rfl rfl Try.underlying29 rfl rfl (by rw [HNA.out, HNB.out]; simp [maxLen]; omega) (by rw [HNA.out, HNB.out]; simp [encI]; omega) hwz ?_; intro v1 w1 hown1 hb1 hg1))
          go_roundw
          case rel => exact ⟨2, by omega, by go_num, by simpa using hown1, XB.out.trans hb1⟩
          case measure => simp [intOf]
        · simp only [if_false, show ¬ (2 : Nat) = 0 by decide, show ¬ (2 : Nat) = 1 by decide] at ho hv
          subst hv
          have HO := Lib.hid ho
          clear ho hb
          go_wp2_with fail
          go_ret
          exact ⟨_, rfl, HO.out, XB.out⟩
end Go.Proofs.Ytipblkdekppbfaa
