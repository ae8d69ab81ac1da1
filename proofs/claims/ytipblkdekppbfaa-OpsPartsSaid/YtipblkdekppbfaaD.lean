/- Walks: what operators do with a value and a cell (ops.steps). Conditions: as each theorem states them. -/
import Derived.Test.YtipblkdekppbfaaB
import Derived.Deep.CutBlock
import Derived.Laws.EntriesVeiled
namespace Go.Proofs.Ytipblkdekppbfaa
open Go.RowKit
set_option linter.unusedVariables false

/-- what a step hands back -/
abbrev StepPost (o : OpD) (c : CellD) (v : Int) (w : World) : Ending → World → Prop := fun e w' =>
  e = .returned (.tuple #[(stepS o c v).1.val, .int .i64 (stepS o c v).2.1, .bool (stepS o c v).2.2]) ∧ Below w.heap.size w w'

set_option maxHeartbeats 1000000 in
theorem step42_any (o : OpD) (c : CellD) (v : Int) (w : World) (h2 : o.tag ≠ 2) (h3 : o.tag ≠ 3) (h4 : o.tag ≠ 4) (h5 : o.tag ≠ 5) :
    Calls Try.prog 42 #[o.val, c.val, .int .i64 v] w (StepPost o c v w) := by
  have HD := Lib.hid (show stepS o c v = (c, v, true) by unfold stepS; rw [if_neg h2, if_neg h3, if_neg h4, if_neg h5])
  obtain ⟨tag, width, a, n, cap, A, B⟩ := o
  obtain ⟨count, sum⟩ := c
  clear h2 h3 h4 h5
  go_enter Try.func42, Try.ntmps42
  go_wp2_with fail
  refine bodyPost_ret (v := .tuple #[.agg #[.int .i64 count, .int .i64 sum], .int .i64 v, .bool true]) (by simp [results, Try.results42, go_sem]) rfl ⟨by rw [HD.out], by go_grown⟩

set_option maxHeartbeats 1000000 in
theorem step43_any (c : CellD) (v : Int) (w : World) :
    Calls Try.prog 43 #[c.val, .int .i64 v] w fun e w' => e = .returned (.agg #[.int .i64 (wrap64 (c.count + 1)), .int .i64 (wrap64 (c.sum + v))]) ∧ Below w.heap.size w w' := by
  obtain ⟨count, sum⟩ := c
  go_enter Try.func43, Try.ntmps43
  go_wp2_with fail
  refine bodyPost_ret (v := .agg #[.int .i64 (wrap64 (count + 1)), .int .i64 (wrap64 (sum + v))]) (by simp [results, Try.results43, go_sem]) rfl ⟨rfl, by go_grown⟩

set_option maxHeartbeats 1000000 in
theorem step44_any (o : OpD) (c : CellD) (v : Int) (w : World) (h2 : o.tag = 2) :
    Calls Try.prog 44 #[o.val, c.val, .int .i64 v] w (StepPost o c v w) := by
  have HD := Lib.hid (show stepS o c v = (c, wrap64 (wrap64 (v * o.A) + o.B), true) by unfold stepS; rw [if_pos h2])
  obtain ⟨tag, width, a, n, cap, A, B⟩ := o
  obtain ⟨count, sum⟩ := c
  clear h2
  go_enter Try.func44, Try.ntmps44
  go_wp2_with fail
  go_region
  go_wp2_with fail
  refine bodyPost_ret (v := .tuple #[.agg #[.int .i64 count, .int .i64 sum], .int .i64 (wrap64 (wrap64 (v * A) + B)), .bool true]) (by simp [results, Try.results44, go_sem]) rfl ⟨by rw [HD.out], by go_grown⟩

set_option maxHeartbeats 1000000 in
theorem step45_any (o : OpD) (c : CellD) (v : Int) (w : World) (h3 : o.tag = 3) (hv : i64b v) (hA : i64b o.A) :
    Calls Try.prog 45 #[o.val, c.val, .int .i64 v] w (StepPost o c v w) := by
  have HD := Lib.hid (show stepS o c v = (c, v, modS v o.A == o.B) by unfold stepS; rw [if_neg (by omega), if_pos h3])
  have HM := Lib.hid (mod16_any v o.A hv hA)
  obtain ⟨tag, width, a, n, cap, A, B⟩ := o
  obtain ⟨count, sum⟩ := c
  clear h3
  go_enter Try.func45, Try.ntmps45
  go_wp2_with fail
  go_region_held3 (fun w' => w'.cell? ⟨w.heap.size + 1, 0, none⟩ = some (.int .i64 count) ∧ w'.cell? ⟨w.heap.size + 1, 1, none⟩ = some (.int .i64 sum) ∧ w'.cell? ⟨w.heap.size, 3, none⟩ = some (.int .i64 A) ∧ w'.cell? ⟨w.heap.size, 4, none⟩ = some (.int .i64 B)) (go_keep) ((go_at_call 16; refine (HM.out _).mono ?_; rintro e w1 ⟨rfl, rfl⟩))
  go_wp2_with fail
  refine bodyPost_ret (v := .tuple #[.agg #[.int .i64 count, .int .i64 sum], .int .i64 v, .bool (modS v A == B)]) (by simp [results, Try.results45, go_sem]) rfl ⟨by rw [HD.out], by go_grown⟩

set_option maxHeartbeats 1000000 in
theorem step46_any (o : OpD) (c : CellD) (v : Int) (pb : Nat) (w : World) (h4 : o.tag = 4) (hp : w.heap[pb]? = some (.cells #[.func (.func 43) #[] #[]] 72 (0, 0))) :
    Calls Try.prog 46 #[o.val, c.val, .int .i64 v, .pointer (some ⟨pb, 0, none⟩)] w (StepPost o c v w) := by
  have HD := Lib.hid (show stepS o c v = (⟨wrap64 (c.count + 1), wrap64 (c.sum + v)⟩, wrap64 (c.sum + v), true) by unfold stepS; rw [if_neg (by omega), if_neg (by omega), if_pos h4])
  have hpl := lt_of_block hp
  obtain ⟨tag, width, a, n, cap, A, B⟩ := o
  obtain ⟨count, sum⟩ := c
  obtain ⟨e1, e2, e3, e4⟩ := alloc3 w (.cells #[.int .i64 tag, .int .i64 width, .slice a n cap, .int .i64 A, .int .i64 B] 24) (.cells #[.int .i64 count, .int .i64 sum] 26) (.cells #[.int .i64 0, .int .i64 0] 26)
  have E1 := Lib.hid e1; have E2 := Lib.hid e2; have E3 := Lib.hid e3; have E4 := Lib.hid e4
  have q1 := (e4.cell (p := ⟨pb, 0, none⟩) hpl).trans ((blk hp).1 0)
  have s1 := lt_of_block e3
  clear h4 hp e1 e2 e3 e4
  go_enter Try.func46, Try.ntmps46
  go_wp2_with fail
  refine (step43_any ⟨count, sum⟩ v _).mono ?_
  rintro e w1 ⟨rfl, hb⟩
  have f2 := (hb.block (w.heap.size + 1) (lt_of_block E2.out)).trans E2.out
  have f3 := (hb.block (w.heap.size + 1 + 1) (lt_of_block E3.out)).trans E3.out
  have B1 := Lib.hid (bt E4.out hb)
  have F1 := Lib.hid ((hb.block w.heap.size (lt_of_block E1.out)).trans E1.out); have F2 := Lib.hid f2; have F3 := Lib.hid f3
  obtain ⟨r1, r2⟩ := blk f2
  obtain ⟨r3, r4⟩ := blk f3
  clear hb f2 f3 q1
  go_upto_region 2 with fail
  obtain ⟨W2, e0, hw2, g1, g2, g3⟩ : ∃ W2, W2 = ((w1.setCell ⟨w.heap.size + 1, 0, none⟩ (.int .i64 (wrap64 (count + 1)))).setCell ⟨w.heap.size + 1, 1, none⟩ (.int .i64 (wrap64 (sum + v)))) ∧ Below w.heap.size w W2 ∧
      W2.heap[w.heap.size]? = some (.cells #[.int .i64 tag, .int .i64 width, .slice a n cap, .int .i64 A, .int .i64 B] 24) ∧ W2.heap[w.heap.size + 1]? = some (.cells #[.int .i64 (wrap64 (count + 1)), .int .i64 (wrap64 (sum + v))] 26) ∧ W2.heap[w.heap.size + 1 + 1]? = some (.cells #[.int .i64 0, .int .i64 0] 26) :=
    ⟨_, rfl, (B1.out.setCell (by simp) _).setCell (by simp) _, by rw [Below.heap_setCell _ _ _ _ (by simp), Below.heap_setCell _ _ _ _ (by simp)]; exact F1.out, blk_set (i := 1) (blk_set (i := 0) F2.out _) _, by rw [Below.heap_setCell _ _ _ _ (by simp), Below.heap_setCell _ _ _ _ (by simp)]; exact F3.out⟩
  rw [← e0]
  obtain ⟨t1, t2⟩ := blk g2
  obtain ⟨t3, t4⟩ := blk g3
  obtain ⟨t5, t6⟩ := blk g1
  have G2 := Lib.hid g2; have G3 := Lib.hid g3; have HW2 := Lib.hid hw2
  clear e0 hw2 g1 g2 g3 r1 r2 r3 r4
  go_region
  go_wp2_with fail
  have K := (blk (blk_set (i := 1) (blk_set (i := 0) G3.out (.int .i64 (wrap64 (count + 1)))) (.int .i64 (wrap64 (sum + v))))).1
  refine bodyPost_ret (v := .tuple #[.agg #[.int .i64 (wrap64 (count + 1)), .int .i64 (wrap64 (sum + v))], .int .i64 (wrap64 (sum + v)), .bool true]) (by simp [results, Try.results46, go_sem, K]) rfl ⟨by rw [HD.out], ?_⟩
  exact ((HW2.out.setCell (by simp; omega) _).setCell (by simp; omega) _).drew

set_option maxHeartbeats 1000000 in
theorem step47_any (o : OpD) (c : CellD) (v : Int) (pb : Nat) (w : World) (h5 : o.tag = 5) (hp : w.heap[pb]? = some (.cells #[.func (.func 43) #[] #[]] 72 (0, 0))) :
    Calls Try.prog 47 #[o.val, c.val, .int .i64 v, .pointer (some ⟨pb, 0, none⟩)] w (StepPost o c v w) := by
  have hd : stepS o c v = (if wrap64 (c.count + 1) < o.A then (⟨wrap64 (c.count + 1), wrap64 (c.sum + v)⟩, 0, false) else (⟨0, 0⟩, wrap64 (c.sum + v), true)) := by unfold stepS; rw [if_neg (by omega), if_neg (by omega), if_neg (by omega), if_pos h5]
  have HD := Lib.hid hd
  have hpl := lt_of_block hp
  obtain ⟨tag, width, a, n, cap, A, B⟩ := o
  obtain ⟨count, sum⟩ := c
  obtain ⟨e1, e2, e3, e4⟩ := alloc3 w (.cells #[.int .i64 tag, .int .i64 width, .slice a n cap, .int .i64 A, .int .i64 B] 24) (.cells #[.int .i64 count, .int .i64 sum] 26) (.cells #[.int .i64 0, .int .i64 0] 26)
  have E1 := Lib.hid e1; have E2 := Lib.hid e2; have E3 := Lib.hid e3; have E4 := Lib.hid e4
  have q1 := (e4.cell (p := ⟨pb, 0, none⟩) hpl).trans ((blk hp).1 0)
  have s1 := lt_of_block e3
  clear h5 hp e1 e2 e3 e4 hd
  go_enter Try.func47, Try.ntmps47
  go_wp2_with fail
  refine (step43_any ⟨count, sum⟩ v _).mono ?_
  rintro e w1 ⟨rfl, hb⟩
  have f2 := (hb.block (w.heap.size + 1) (lt_of_block E2.out)).trans E2.out
  have f3 := (hb.block (w.heap.size + 1 + 1) (lt_of_block E3.out)).trans E3.out
  have B1 := Lib.hid (bt E4.out hb)
  have F1 := Lib.hid ((hb.block w.heap.size (lt_of_block E1.out)).trans E1.out); have F2 := Lib.hid f2; have F3 := Lib.hid f3
  obtain ⟨r1, r2⟩ := blk f2
  obtain ⟨r3, r4⟩ := blk f3
  clear hb f2 f3 q1
  go_upto_region 2 with fail
  obtain ⟨W2, e0, hw2, g1, g2, g3⟩ : ∃ W2, W2 = ((w1.setCell ⟨w.heap.size + 1, 0, none⟩ (.int .i64 (wrap64 (count + 1)))).setCell ⟨w.heap.size + 1, 1, none⟩ (.int .i64 (wrap64 (sum + v)))) ∧ Below w.heap.size w W2 ∧
      W2.heap[w.heap.size]? = some (.cells #[.int .i64 tag, .int .i64 width, .slice a n cap, .int .i64 A, .int .i64 B] 24) ∧ W2.heap[w.heap.size + 1]? = some (.cells #[.int .i64 (wrap64 (count + 1)), .int .i64 (wrap64 (sum + v))] 26) ∧ W2.heap[w.heap.size + 1 + 1]? = some (.cells #[.int .i64 0, .int .i64 0] 26) :=
    ⟨_, rfl, (B1.out.setCell (by simp) _).setCell (by simp) _, by rw [Below.heap_setCell _ _ _ _ (by simp), Below.heap_setCell _ _ _ _ (by simp)]; exact F1.out, blk_set (i := 1) (blk_set (i := 0) F2.out _) _, by rw [Below.heap_setCell _ _ _ _ (by simp), Below.heap_setCell _ _ _ _ (by simp)]; exact F3.out⟩
  rw [← e0]
  obtain ⟨t1, t2⟩ := blk g2
  obtain ⟨t3, t4⟩ := blk g3
  obtain ⟨t5, t6⟩ := blk g1
  have G2 := Lib.hid g2; have G3 := Lib.hid g3; have HW2 := Lib.hid hw2
  clear e0 hw2 g1 g2 g3 r1 r2 r3 r4
  by_cases hlt : wrap64 (count + 1) < A
  · have hq : decide (wrap64 (count + 1) < A) = true := decide_eq_true hlt
    have hd := HD.out
    simp only [hlt, if_true] at hd
    have HD2 := Lib.hid hd
    have HQ := Lib.hid hlt
    clear hlt hd HD
    go_wp2_with fail
    have K := (blk (blk_set (i := 1) (blk_set (i := 0) G3.out (.int .i64 (wrap64 (count + 1)))) (.int .i64 (wrap64 (sum + v))))).1
    refine bodyPost_ret (v := .tuple #[.agg #[.int .i64 (wrap64 (count + 1)), .int .i64 (wrap64 (sum + v))], .int .i64 0, .bool false]) (by simp [results, Try.results47, go_sem, K]) rfl ⟨by rw [HD2.out], ?_⟩
    exact (HW2.out.setCell (by simp; omega) _).setCell (by simp; omega) _
  · have hq : decide (wrap64 (count + 1) < A) = false := decide_eq_false hlt
    have hd := HD.out
    simp only [hlt, if_false] at hd
    have HD2 := Lib.hid hd
    have HQ := Lib.hid hlt
    clear hlt hd HD
    go_wp2_with fail
    go_region
    go_wp2_with fail
    have K := (blk (blk_set (i := 1) (blk_set (i := 0) G3.out (.int .i64 0)) (.int .i64 0))).1
    refine bodyPost_ret (v := .tuple #[.agg #[.int .i64 0, .int .i64 0], .int .i64 (wrap64 (sum + v)), .bool true]) (by simp [results, Try.results47, go_sem, K]) rfl ⟨by rw [HD2.out], ?_⟩
    exact ((HW2.out.setCell (by simp; omega) _).setCell (by simp; omega) _).drew

/-- 'steps()' -/
theorem steps_any (w : World) : Calls Try.prog 41 #[] w fun e w' => e = .returned (.agg #[.nilFunc, .func (.func 42) #[] #[], .func (.func 44) #[] #[], .func (.func 45) #[] #[], .func (.func 46) #[] #[.pointer (some ⟨w.heap.size + 1, 0, none⟩)], .func (.func 47) #[] #[.pointer (some ⟨w.heap.size + 1, 0, none⟩)], .func (.func 42) #[] #[], .func (.func 42) #[] #[]]) ∧
    w'.heap[w.heap.size + 1]? = some (.cells #[.func (.func 43) #[] #[]] 72 (0, 0)) ∧ Below w.heap.size w w' := by
  go_enter Try.func41, Try.ntmps41
  go_wp2_with fail
  refine bodyPost_ret (v := .agg #[.nilFunc, .func (.func 42) #[] #[], .func (.func 44) #[] #[], .func (.func 45) #[] #[], .func (.func 46) #[] #[.pointer (some ⟨w.heap.size + 1, 0, none⟩)], .func (.func 47) #[] #[.pointer (some ⟨w.heap.size + 1, 0, none⟩)], .func (.func 42) #[] #[], .func (.func 42) #[] #[]]) (by simp [results, Try.results41, go_sem]) rfl ⟨rfl, ?_, by go_grown⟩
  exact heap_alloc2_new _ _ _
end Go.Proofs.Ytipblkdekppbfaa
