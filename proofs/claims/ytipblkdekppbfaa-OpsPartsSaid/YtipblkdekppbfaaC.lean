/- Walks: graph.Alone, headraceref06.Alone. Conditions: as each theorem states them. -/
import Derived.Test.YtipblkdekppbfaaB
namespace Go.Proofs.Ytipblkdekppbfaa
open Go.RowKit
set_option linter.unusedVariables false

/-- of which operators the numbers fit, by their tags -/
def tagS (tag n A B : Int) : Bool :=
  if tag = 1 then decide (n = 0) && decide (0 ≤ A) && decide (A < 4) && decide (B = 0)
  else if tag = 2 then decide (n = 1)
  else if tag = 3 then decide (n = 1) && decide (0 < A) && decide (0 ≤ B) && decide (B < A)
  else if tag = 4 ∨ tag = 7 then decide (n = 1) && decide (A = 0) && decide (B = 0)
  else if tag = 5 then decide (n = 1) && decide (1 ≤ A) && decide (A ≤ 8) && decide (B = 0)
  else if tag = 6 then decide (2 ≤ n) && decide (A = 0) && decide (B = 0)
  else false
theorem aloneS_eq (tag width : Int) (a : Option Addr) (len cap : Nat) (A B : Int) (ins : List Int) :
    aloneS ⟨tag, width, a, len, cap, A, B⟩ ins = (decide (1 ≤ width) && decide (width ≤ 3) && risesS 8 (-1) ins && tagS tag (ins.length : Int) A B) := by
  unfold aloneS tagS
  simp only
  have e0 : decide ((ins.length : Int) = 0) = decide (ins.length = 0) := by congr 1; simp only [eq_iff_iff]; omega
  have e1 : decide ((ins.length : Int) = 1) = decide (ins.length = 1) := by congr 1; simp only [eq_iff_iff]; omega
  have e2 : decide (2 ≤ (ins.length : Int)) = decide (2 ≤ ins.length) := by congr 1; simp only [eq_iff_iff]; omega
  rw [e0, e1, e2]


set_option maxHeartbeats 4000000 in
set_option maxRecDepth 100000 in
theorem alone24_1 (width : Int) (a : Option Addr) (n cap : Nat) (A B : Int) (hw0 : 1 ≤ width) (hw1 : width ≤ 3) (hA : i64b A) (hB : i64b B) (hn9 : n ≤ 9223372036854775807) (w : World) (hr : ∀ W, Below w.heap.size w W → Calls Try.prog 33 #[.slice a n cap, .int .i64 8] W fun e w' => e = .returned (.bool true) ∧ W = w') :
    Calls Try.prog 24 #[.agg #[.int .i64 1, .int .i64 width, .slice a n cap, .int .i64 A, .int .i64 B], .int .i64 8] w fun e w' => e = .returned (.bool (tagS 1 (n : Int) A B)) ∧ Below w.heap.size w w' := by
  obtain ⟨hA1, hA2⟩ := hA
  obtain ⟨hB1, hB2⟩ := hB
  have HR := Lib.hid hr
  clear hr
  by_cases hn : n = 0
  · obtain rfl := hn
    by_cases c1 : 0 ≤ A
    · have Dc1 := Lib.hid (show decide (0 ≤ A) = true from decide_eq_true c1)
      by_cases c2 : A < 4
      · have Dc2 := Lib.hid (show decide (A < 4) = true from decide_eq_true c2)
        by_cases hBe : B = 0
        · subst hBe
          have TS := Lib.hid (show tagS 1 ((0 : Nat) : Int) A 0 = true by first | (simp [tagS]; done) | (simp [tagS]; omega) | (simp_all [tagS]; done) | (simp_all [tagS]; omega))
          rw [TS.out]
          go_enter Try.func24, Try.ntmps24
          go_wp2_with fail
          refine (HR.out _ (below_alloc _ _)).mono ?_
          rintro e w1 ⟨rfl, rfl⟩
          go_wp2_with fail
          go_ret
          first | exact ⟨rfl, below_alloc _ _⟩ | exact ⟨ret_bool (decide_eq_true (by omega)), below_alloc _ _⟩ | exact ⟨ret_bool (decide_eq_false (by omega)), below_alloc _ _⟩
        · have gB : (B == 0) = false := by simp only [beq_eq_false_iff_ne, ne_eq]; exact hBe
          have gB' : decide (B = 0) = false := decide_eq_false hBe
          have GB := Lib.hid gB'
          clear hBe gB'
          have TS := Lib.hid (show tagS 1 ((0 : Nat) : Int) A B = false by first | (simp [tagS]; done) | (simp [tagS]; omega) | (simp_all [tagS]; done) | (simp_all [tagS]; omega))
          rw [TS.out]
          go_enter Try.func24, Try.ntmps24
          go_wp2_with fail
          refine (HR.out _ (below_alloc _ _)).mono ?_
          rintro e w1 ⟨rfl, rfl⟩
          go_wp2_with fail
          go_ret
          first | exact ⟨rfl, below_alloc _ _⟩ | exact ⟨ret_bool (decide_eq_true (by omega)), below_alloc _ _⟩ | exact ⟨ret_bool (decide_eq_false (by omega)), below_alloc _ _⟩
      · have Dc2 := Lib.hid (show decide (A < 4) = false from decide_eq_false c2)
        have TS := Lib.hid (show tagS 1 ((0 : Nat) : Int) A B = false by first | (simp [tagS]; done) | (simp [tagS]; omega) | (simp_all [tagS]; done) | (simp_all [tagS]; omega))
        rw [TS.out]
        go_enter Try.func24, Try.ntmps24
        go_wp2_with fail
        refine (HR.out _ (below_alloc _ _)).mono ?_
        rintro e w1 ⟨rfl, rfl⟩
        go_wp2_with fail
        go_ret
        first | exact ⟨rfl, below_alloc _ _⟩ | exact ⟨ret_bool (decide_eq_true (by omega)), below_alloc _ _⟩ | exact ⟨ret_bool (decide_eq_false (by omega)), below_alloc _ _⟩
    · have Dc1 := Lib.hid (show decide (0 ≤ A) = false from decide_eq_false c1)
      have TS := Lib.hid (show tagS 1 ((0 : Nat) : Int) A B = false by first | (simp [tagS]; done) | (simp [tagS]; omega) | (simp_all [tagS]; done) | (simp_all [tagS]; omega))
      rw [TS.out]
      go_enter Try.func24, Try.ntmps24
      go_wp2_with fail
      refine (HR.out _ (below_alloc _ _)).mono ?_
      rintro e w1 ⟨rfl, rfl⟩
      go_wp2_with fail
      go_ret
      first | exact ⟨rfl, below_alloc _ _⟩ | exact ⟨ret_bool (decide_eq_true (by omega)), below_alloc _ _⟩ | exact ⟨ret_bool (decide_eq_false (by omega)), below_alloc _ _⟩
  · have gn : ((n : Int) == 0) = false := by simp only [beq_eq_false_iff_ne, ne_eq]; omega
    have gn' : ((n : Int) != 0) = true := by simp only [bne_iff_ne, ne_eq]; omega
    have Dn := Lib.hid (show decide ((n : Int) = 0) = false from decide_eq_false (by omega))
    clear hn
    have TS := Lib.hid (show tagS 1 ((n : Nat) : Int) A B = false by first | (simp [tagS]; done) | (simp [tagS]; omega) | (simp_all [tagS]; done) | (simp_all [tagS]; omega))
    rw [TS.out]
    go_enter Try.func24, Try.ntmps24
    go_wp2_with fail
    refine (HR.out _ (below_alloc _ _)).mono ?_
    rintro e w1 ⟨rfl, rfl⟩
    go_wp2_with fail
    go_ret
    first | exact ⟨rfl, below_alloc _ _⟩ | exact ⟨ret_bool (decide_eq_true (by omega)), below_alloc _ _⟩ | exact ⟨ret_bool (decide_eq_false (by omega)), below_alloc _ _⟩

set_option maxHeartbeats 4000000 in
set_option maxRecDepth 100000 in
theorem alone24_2 (width : Int) (a : Option Addr) (n cap : Nat) (A B : Int) (hw0 : 1 ≤ width) (hw1 : width ≤ 3) (hA : i64b A) (hB : i64b B) (hn9 : n ≤ 9223372036854775807) (w : World) (hr : ∀ W, Below w.heap.size w W → Calls Try.prog 33 #[.slice a n cap, .int .i64 8] W fun e w' => e = .returned (.bool true) ∧ W = w') :
    Calls Try.prog 24 #[.agg #[.int .i64 2, .int .i64 width, .slice a n cap, .int .i64 A, .int .i64 B], .int .i64 8] w fun e w' => e = .returned (.bool (tagS 2 (n : Int) A B)) ∧ Below w.heap.size w w' := by
  obtain ⟨hA1, hA2⟩ := hA
  obtain ⟨hB1, hB2⟩ := hB
  have HR := Lib.hid hr
  clear hr
  by_cases hn : n = 1
  · obtain rfl := hn
    have TS := Lib.hid (show tagS 2 ((1 : Nat) : Int) A B = true by first | (simp [tagS]; done) | (simp [tagS]; omega) | (simp_all [tagS]; done) | (simp_all [tagS]; omega))
    rw [TS.out]
    go_enter Try.func24, Try.ntmps24
    go_wp2_with fail
    refine (HR.out _ (below_alloc _ _)).mono ?_
    rintro e w1 ⟨rfl, rfl⟩
    go_wp2_with fail
    go_ret
    first | exact ⟨rfl, below_alloc _ _⟩ | exact ⟨ret_bool (decide_eq_true (by omega)), below_alloc _ _⟩ | exact ⟨ret_bool (decide_eq_false (by omega)), below_alloc _ _⟩
  · have gn : ((n : Int) == 1) = false := by simp only [beq_eq_false_iff_ne, ne_eq]; omega
    have gn' : ((n : Int) != 1) = true := by simp only [bne_iff_ne, ne_eq]; omega
    have Dn := Lib.hid (show decide ((n : Int) = 1) = false from decide_eq_false (by omega))
    clear hn
    have TS := Lib.hid (show tagS 2 ((n : Nat) : Int) A B = false by first | (simp [tagS]; done) | (simp [tagS]; omega) | (simp_all [tagS]; done) | (simp_all [tagS]; omega))
    rw [TS.out]
    go_enter Try.func24, Try.ntmps24
    go_wp2_with fail
    refine (HR.out _ (below_alloc _ _)).mono ?_
    rintro e w1 ⟨rfl, rfl⟩
    go_wp2_with fail
    go_ret
    first | exact ⟨rfl, below_alloc _ _⟩ | exact ⟨ret_bool (decide_eq_true (by omega)), below_alloc _ _⟩ | exact ⟨ret_bool (decide_eq_false (by omega)), below_alloc _ _⟩

set_option maxHeartbeats 4000000 in
set_option maxRecDepth 100000 in
theorem alone24_3 (width : Int) (a : Option Addr) (n cap : Nat) (A B : Int) (hw0 : 1 ≤ width) (hw1 : width ≤ 3) (hA : i64b A) (hB : i64b B) (hn9 : n ≤ 9223372036854775807) (w : World) (hr : ∀ W, Below w.heap.size w W → Calls Try.prog 33 #[.slice a n cap, .int .i64 8] W fun e w' => e = .returned (.bool true) ∧ W = w') :
    Calls Try.prog 24 #[.agg #[.int .i64 3, .int .i64 width, .slice a n cap, .int .i64 A, .int .i64 B], .int .i64 8] w fun e w' => e = .returned (.bool (tagS 3 (n : Int) A B)) ∧ Below w.heap.size w w' := by
  obtain ⟨hA1, hA2⟩ := hA
  obtain ⟨hB1, hB2⟩ := hB
  have HR := Lib.hid hr
  clear hr
  by_cases hn : n = 1
  · obtain rfl := hn
    by_cases c1 : 0 < A
    · have Dc1 := Lib.hid (show decide (0 < A) = true from decide_eq_true c1)
      by_cases c2 : 0 ≤ B
      · have Dc2 := Lib.hid (show decide (0 ≤ B) = true from decide_eq_true c2)
        by_cases c3 : B < A
        · have Dc3 := Lib.hid (show decide (B < A) = true from decide_eq_true c3)
          have TS := Lib.hid (show tagS 3 ((1 : Nat) : Int) A B = true by first | (simp [tagS]; done) | (simp [tagS]; omega) | (simp_all [tagS]; done) | (simp_all [tagS]; omega))
          rw [TS.out]
          go_enter Try.func24, Try.ntmps24
          go_wp2_with fail
          refine (HR.out _ (below_alloc _ _)).mono ?_
          rintro e w1 ⟨rfl, rfl⟩
          go_wp2_with fail
          go_ret
          first | exact ⟨rfl, below_alloc _ _⟩ | exact ⟨ret_bool (decide_eq_true (by omega)), below_alloc _ _⟩ | exact ⟨ret_bool (decide_eq_false (by omega)), below_alloc _ _⟩
        · have Dc3 := Lib.hid (show decide (B < A) = false from decide_eq_false c3)
          have TS := Lib.hid (show tagS 3 ((1 : Nat) : Int) A B = false by first | (simp [tagS]; done) | (simp [tagS]; omega) | (simp_all [tagS]; done) | (simp_all [tagS]; omega))
          rw [TS.out]
          go_enter Try.func24, Try.ntmps24
          go_wp2_with fail
          refine (HR.out _ (below_alloc _ _)).mono ?_
          rintro e w1 ⟨rfl, rfl⟩
          go_wp2_with fail
          go_ret
          first | exact ⟨rfl, below_alloc _ _⟩ | exact ⟨ret_bool (decide_eq_true (by omega)), below_alloc _ _⟩ | exact ⟨ret_bool (decide_eq_false (by omega)), below_alloc _ _⟩
      · have Dc2 := Lib.hid (show decide (0 ≤ B) = false from decide_eq_false c2)
        have TS := Lib.hid (show tagS 3 ((1 : Nat) : Int) A B = false by first | (simp [tagS]; done) | (simp [tagS]; omega) | (simp_all [tagS]; done) | (simp_all [tagS]; omega))
        rw [TS.out]
        go_enter Try.func24, Try.ntmps24
        go_wp2_with fail
        refine (HR.out _ (below_alloc _ _)).mono ?_
        rintro e w1 ⟨rfl, rfl⟩
        go_wp2_with fail
        go_ret
        first | exact ⟨rfl, below_alloc _ _⟩ | exact ⟨ret_bool (decide_eq_true (by omega)), below_alloc _ _⟩ | exact ⟨ret_bool (decide_eq_false (by omega)), below_alloc _ _⟩
    · have Dc1 := Lib.hid (show decide (0 < A) = false from decide_eq_false c1)
      have TS := Lib.hid (show tagS 3 ((1 : Nat) : Int) A B = false by first | (simp [tagS]; done) | (simp [tagS]; omega) | (simp_all [tagS]; done) | (simp_all [tagS]; omega))
      rw [TS.out]
      go_enter Try.func24, Try.ntmps24
      go_wp2_with fail
      refine (HR.out _ (below_alloc _ _)).mono ?_
      rintro e w1 ⟨rfl, rfl⟩
      go_wp2_with fail
      go_ret
      first | exact ⟨rfl, below_alloc _ _⟩ | exact ⟨ret_bool (decide_eq_true (by omega)), below_alloc _ _⟩ | exact ⟨ret_bool (decide_eq_false (by omega)), below_alloc _ _⟩
  · have gn : ((n : Int) == 1) = false := by simp only [beq_eq_false_iff_ne, ne_eq]; omega
    have gn' : ((n : Int) != 1) = true := by simp only [bne_iff_ne, ne_eq]; omega
    have Dn := Lib.hid (show decide ((n : Int) = 1) = false from decide_eq_false (by omega))
    clear hn
    have TS := Lib.hid (show tagS 3 ((n : Nat) : Int) A B = false by first | (simp [tagS]; done) | (simp [tagS]; omega) | (simp_all [tagS]; done) | (simp_all [tagS]; omega))
    rw [TS.out]
    go_enter Try.func24, Try.ntmps24
    go_wp2_with fail
    refine (HR.out _ (below_alloc _ _)).mono ?_
    rintro e w1 ⟨rfl, rfl⟩
    go_wp2_with fail
    go_ret
    first | exact ⟨rfl, below_alloc _ _⟩ | exact ⟨ret_bool (decide_eq_true (by omega)), below_alloc _ _⟩ | exact ⟨ret_bool (decide_eq_false (by omega)), below_alloc _ _⟩

set_option maxHeartbeats 4000000 in
set_option maxRecDepth 100000 in
theorem alone24_4 (width : Int) (a : Option Addr) (n cap : Nat) (A B : Int) (hw0 : 1 ≤ width) (hw1 : width ≤ 3) (hA : i64b A) (hB : i64b B) (hn9 : n ≤ 9223372036854775807) (w : World) (hr : ∀ W, Below w.heap.size w W → Calls Try.prog 33 #[.slice a n cap, .int .i64 8] W fun e w' => e = .returned (.bool true) ∧ W = w') :
    Calls Try.prog 24 #[.agg #[.int .i64 4, .int .i64 width, .slice a n cap, .int .i64 A, .int .i64 B], .int .i64 8] w fun e w' => e = .returned (.bool (tagS 4 (n : Int) A B)) ∧ Below w.heap.size w w' := by
  obtain ⟨hA1, hA2⟩ := hA
  obtain ⟨hB1, hB2⟩ := hB
  have HR := Lib.hid hr
  clear hr
  by_cases hn : n = 1
  · obtain rfl := hn
    by_cases hAe : A = 0
    · subst hAe
      by_cases hBe : B = 0
      · subst hBe
        have TS := Lib.hid (show tagS 4 ((1 : Nat) : Int) 0 0 = true by first | (simp [tagS]; done) | (simp [tagS]; omega) | (simp_all [tagS]; done) | (simp_all [tagS]; omega))
        rw [TS.out]
        go_enter Try.func24, Try.ntmps24
        go_wp2_with fail
        refine (HR.out _ (below_alloc _ _)).mono ?_
        rintro e w1 ⟨rfl, rfl⟩
        go_wp2_with fail
        go_ret
        first | exact ⟨rfl, below_alloc _ _⟩ | exact ⟨ret_bool (decide_eq_true (by omega)), below_alloc _ _⟩ | exact ⟨ret_bool (decide_eq_false (by omega)), below_alloc _ _⟩
      · have gB : (B == 0) = false := by simp only [beq_eq_false_iff_ne, ne_eq]; exact hBe
        have gB' : decide (B = 0) = false := decide_eq_false hBe
        have GB := Lib.hid gB'
        clear hBe gB'
        have TS := Lib.hid (show tagS 4 ((1 : Nat) : Int) 0 B = false by first | (simp [tagS]; done) | (simp [tagS]; omega) | (simp_all [tagS]; done) | (simp_all [tagS]; omega))
        rw [TS.out]
        go_enter Try.func24, Try.ntmps24
        go_wp2_with fail
        refine (HR.out _ (below_alloc _ _)).mono ?_
        rintro e w1 ⟨rfl, rfl⟩
        go_wp2_with fail
        go_ret
        first | exact ⟨rfl, below_alloc _ _⟩ | exact ⟨ret_bool (decide_eq_true (by omega)), below_alloc _ _⟩ | exact ⟨ret_bool (decide_eq_false (by omega)), below_alloc _ _⟩
    · have gA : (A == 0) = false := by simp only [beq_eq_false_iff_ne, ne_eq]; exact hAe
      have gA' : decide (A = 0) = false := decide_eq_false hAe
      have GA := Lib.hid gA'
      clear hAe gA'
      have TS := Lib.hid (show tagS 4 ((1 : Nat) : Int) A B = false by first | (simp [tagS]; done) | (simp [tagS]; omega) | (simp_all [tagS]; done) | (simp_all [tagS]; omega))
      rw [TS.out]
      go_enter Try.func24, Try.ntmps24
      go_wp2_with fail
      refine (HR.out _ (below_alloc _ _)).mono ?_
      rintro e w1 ⟨rfl, rfl⟩
      go_wp2_with fail
      go_ret
      first | exact ⟨rfl, below_alloc _ _⟩ | exact ⟨ret_bool (decide_eq_true (by omega)), below_alloc _ _⟩ | exact ⟨ret_bool (decide_eq_false (by omega)), below_alloc _ _⟩
  · have gn : ((n : Int) == 1) = false := by simp only [beq_eq_false_iff_ne, ne_eq]; omega
    have gn' : ((n : Int) != 1) = true := by simp only [bne_iff_ne, ne_eq]; omega
    have Dn := Lib.hid (show decide ((n : Int) = 1) = false from decide_eq_false (by omega))
    clear hn
    have TS := Lib.hid (show tagS 4 ((n : Nat) : Int) A B = false by first | (simp [tagS]; done) | (simp [tagS]; omega) | (simp_all [tagS]; done) | (simp_all [tagS]; omega))
    rw [TS.out]
    go_enter Try.func24, Try.ntmps24
    go_wp2_with fail
    refine (HR.out _ (below_alloc _ _)).mono ?_
    rintro e w1 ⟨rfl, rfl⟩
    go_wp2_with fail
    go_ret
    first | exact ⟨rfl, below_alloc _ _⟩ | exact ⟨ret_bool (decide_eq_true (by omega)), below_alloc _ _⟩ | exact ⟨ret_bool (decide_eq_false (by omega)), below_alloc _ _⟩

set_option maxHeartbeats 4000000 in
set_option maxRecDepth 100000 in
theorem alone24_5 (width : Int) (a : Option Addr) (n cap : Nat) (A B : Int) (hw0 : 1 ≤ width) (hw1 : width ≤ 3) (hA : i64b A) (hB : i64b B) (hn9 : n ≤ 9223372036854775807) (w : World) (hr : ∀ W, Below w.heap.size w W → Calls Try.prog 33 #[.slice a n cap, .int .i64 8] W fun e w' => e = .returned (.bool true) ∧ W = w') :
    Calls Try.prog 24 #[.agg #[.int .i64 5, .int .i64 width, .slice a n cap, .int .i64 A, .int .i64 B], .int .i64 8] w fun e w' => e = .returned (.bool (tagS 5 (n : Int) A B)) ∧ Below w.heap.size w w' := by
  obtain ⟨hA1, hA2⟩ := hA
  obtain ⟨hB1, hB2⟩ := hB
  have HR := Lib.hid hr
  clear hr
  by_cases hn : n = 1
  · obtain rfl := hn
    by_cases c1 : 1 ≤ A
    · have Dc1 := Lib.hid (show decide (1 ≤ A) = true from decide_eq_true c1)
      by_cases c2 : A ≤ 8
      · have Dc2 := Lib.hid (show decide (A ≤ 8) = true from decide_eq_true c2)
        by_cases hBe : B = 0
        · subst hBe
          have TS := Lib.hid (show tagS 5 ((1 : Nat) : Int) A 0 = true by first | (simp [tagS]; done) | (simp [tagS]; omega) | (simp_all [tagS]; done) | (simp_all [tagS]; omega))
          rw [TS.out]
          go_enter Try.func24, Try.ntmps24
          go_wp2_with fail
          refine (HR.out _ (below_alloc _ _)).mono ?_
          rintro e w1 ⟨rfl, rfl⟩
          go_wp2_with fail
          go_ret
          first | exact ⟨rfl, below_alloc _ _⟩ | exact ⟨ret_bool (decide_eq_true (by omega)), below_alloc _ _⟩ | exact ⟨ret_bool (decide_eq_false (by omega)), below_alloc _ _⟩
        · have gB : (B == 0) = false := by simp only [beq_eq_false_iff_ne, ne_eq]; exact hBe
          have gB' : decide (B = 0) = false := decide_eq_false hBe
          have GB := Lib.hid gB'
          clear hBe gB'
          have TS := Lib.hid (show tagS 5 ((1 : Nat) : Int) A B = false by first | (simp [tagS]; done) | (simp [tagS]; omega) | (simp_all [tagS]; done) | (simp_all [tagS]; omega))
          rw [TS.out]
          go_enter Try.func24, Try.ntmps24
          go_wp2_with fail
          refine (HR.out _ (below_alloc _ _)).mono ?_
          rintro e w1 ⟨rfl, rfl⟩
          go_wp2_with fail
          go_ret
          first | exact ⟨rfl, below_alloc _ _⟩ | exact ⟨ret_bool (decide_eq_true (by omega)), below_alloc _ _⟩ | exact ⟨ret_bool (decide_eq_false (by omega)), below_alloc _ _⟩
      · have Dc2 := Lib.hid (show decide (A ≤ 8) = false from decide_eq_false c2)
        have TS := Lib.hid (show tagS 5 ((1 : Nat) : Int) A B = false by first | (simp [tagS]; done) | (simp [tagS]; omega) | (simp_all [tagS]; done) | (simp_all [tagS]; omega))
        rw [TS.out]
        go_enter Try.func24, Try.ntmps24
        go_wp2_with fail
        refine (HR.out _ (below_alloc _ _)).mono ?_
        rintro e w1 ⟨rfl, rfl⟩
        go_wp2_with fail
        go_ret
        first | exact ⟨rfl, below_alloc _ _⟩ | exact ⟨ret_bool (decide_eq_true (by omega)), below_alloc _ _⟩ | exact ⟨ret_bool (decide_eq_false (by omega)), below_alloc _ _⟩
    · have Dc1 := Lib.hid (show decide (1 ≤ A) = false from decide_eq_false c1)
      have TS := Lib.hid (show tagS 5 ((1 : Nat) : Int) A B = false by first | (simp [tagS]; done) | (simp [tagS]; omega) | (simp_all [tagS]; done) | (simp_all [tagS]; omega))
      rw [TS.out]
      go_enter Try.func24, Try.ntmps24
      go_wp2_with fail
      refine (HR.out _ (below_alloc _ _)).mono ?_
      rintro e w1 ⟨rfl, rfl⟩
      go_wp2_with fail
      go_ret
      first | exact ⟨rfl, below_alloc _ _⟩ | exact ⟨ret_bool (decide_eq_true (by omega)), below_alloc _ _⟩ | exact ⟨ret_bool (decide_eq_false (by omega)), below_alloc _ _⟩
  · have gn : ((n : Int) == 1) = false := by simp only [beq_eq_false_iff_ne, ne_eq]; omega
    have gn' : ((n : Int) != 1) = true := by simp only [bne_iff_ne, ne_eq]; omega
    have Dn := Lib.hid (show decide ((n : Int) = 1) = false from decide_eq_false (by omega))
    clear hn
    have TS := Lib.hid (show tagS 5 ((n : Nat) : Int) A B = false by first | (simp [tagS]; done) | (simp [tagS]; omega) | (simp_all [tagS]; done) | (simp_all [tagS]; omega))
    rw [TS.out]
    go_enter Try.func24, Try.ntmps24
    go_wp2_with fail
    refine (HR.out _ (below_alloc _ _)).mono ?_
    rintro e w1 ⟨rfl, rfl⟩
    go_wp2_with fail
    go_ret
    first | exact ⟨rfl, below_alloc _ _⟩ | exact ⟨ret_bool (decide_eq_true (by omega)), below_alloc _ _⟩ | exact ⟨ret_bool (decide_eq_false (by omega)), below_alloc _ _⟩

set_option maxHeartbeats 4000000 in
set_option maxRecDepth 100000 in
theorem alone24_6 (width : Int) (a : Option Addr) (n cap : Nat) (A B : Int) (hw0 : 1 ≤ width) (hw1 : width ≤ 3) (hA : i64b A) (hB : i64b B) (hn9 : n ≤ 9223372036854775807) (w : World) (hr : ∀ W, Below w.heap.size w W → Calls Try.prog 33 #[.slice a n cap, .int .i64 8] W fun e w' => e = .returned (.bool true) ∧ W = w') :
    Calls Try.prog 24 #[.agg #[.int .i64 6, .int .i64 width, .slice a n cap, .int .i64 A, .int .i64 B], .int .i64 8] w fun e w' => e = .returned (.bool (tagS 6 (n : Int) A B)) ∧ Below w.heap.size w w' := by
  obtain ⟨hA1, hA2⟩ := hA
  obtain ⟨hB1, hB2⟩ := hB
  have HR := Lib.hid hr
  clear hr
  by_cases hn : 2 ≤ n
  · have Dn := Lib.hid (show decide (2 ≤ (n : Int)) = true from decide_eq_true (by omega))
    have gn : ((n : Int) == 0) = false := by simp only [beq_eq_false_iff_ne, ne_eq]; omega
    have gn1 : ((n : Int) == 1) = false := by simp only [beq_eq_false_iff_ne, ne_eq]; omega
    by_cases hAe : A = 0
    · subst hAe
      by_cases hBe : B = 0
      · subst hBe
        have TS := Lib.hid (show tagS 6 ((n : Nat) : Int) 0 0 = true by first | (simp [tagS]; done) | (simp [tagS]; omega) | (simp_all [tagS]; done) | (simp_all [tagS]; omega))
        rw [TS.out]
        go_enter Try.func24, Try.ntmps24
        go_wp2_with fail
        refine (HR.out _ (below_alloc _ _)).mono ?_
        rintro e w1 ⟨rfl, rfl⟩
        go_wp2_with fail
        go_ret
        first | exact ⟨rfl, below_alloc _ _⟩ | exact ⟨ret_bool (decide_eq_true (by omega)), below_alloc _ _⟩ | exact ⟨ret_bool (decide_eq_false (by omega)), below_alloc _ _⟩
      · have gB : (B == 0) = false := by simp only [beq_eq_false_iff_ne, ne_eq]; exact hBe
        have gB' : decide (B = 0) = false := decide_eq_false hBe
        have GB := Lib.hid gB'
        clear hBe gB'
        have TS := Lib.hid (show tagS 6 ((n : Nat) : Int) 0 B = false by first | (simp [tagS]; done) | (simp [tagS]; omega) | (simp_all [tagS]; done) | (simp_all [tagS]; omega))
        rw [TS.out]
        go_enter Try.func24, Try.ntmps24
        go_wp2_with fail
        refine (HR.out _ (below_alloc _ _)).mono ?_
        rintro e w1 ⟨rfl, rfl⟩
        go_wp2_with fail
        go_ret
        first | exact ⟨rfl, below_alloc _ _⟩ | exact ⟨ret_bool (decide_eq_true (by omega)), below_alloc _ _⟩ | exact ⟨ret_bool (decide_eq_false (by omega)), below_alloc _ _⟩
    · have gA : (A == 0) = false := by simp only [beq_eq_false_iff_ne, ne_eq]; exact hAe
      have gA' : decide (A = 0) = false := decide_eq_false hAe
      have GA := Lib.hid gA'
      clear hAe gA'
      have TS := Lib.hid (show tagS 6 ((n : Nat) : Int) A B = false by first | (simp [tagS]; done) | (simp [tagS]; omega) | (simp_all [tagS]; done) | (simp_all [tagS]; omega))
      rw [TS.out]
      go_enter Try.func24, Try.ntmps24
      go_wp2_with fail
      refine (HR.out _ (below_alloc _ _)).mono ?_
      rintro e w1 ⟨rfl, rfl⟩
      go_wp2_with fail
      go_ret
      first | exact ⟨rfl, below_alloc _ _⟩ | exact ⟨ret_bool (decide_eq_true (by omega)), below_alloc _ _⟩ | exact ⟨ret_bool (decide_eq_false (by omega)), below_alloc _ _⟩
  · have Dn := Lib.hid (show decide (2 ≤ (n : Int)) = false from decide_eq_false (by omega))
    have TS := Lib.hid (show tagS 6 ((n : Nat) : Int) A B = false by first | (simp [tagS]; done) | (simp [tagS]; omega) | (simp_all [tagS]; done) | (simp_all [tagS]; omega))
    rw [TS.out]
    go_enter Try.func24, Try.ntmps24
    go_wp2_with fail
    refine (HR.out _ (below_alloc _ _)).mono ?_
    rintro e w1 ⟨rfl, rfl⟩
    go_wp2_with fail
    go_ret
    first | exact ⟨rfl, below_alloc _ _⟩ | exact ⟨ret_bool (decide_eq_true (by omega)), below_alloc _ _⟩ | exact ⟨ret_bool (decide_eq_false (by omega)), below_alloc _ _⟩

set_option maxHeartbeats 4000000 in
set_option maxRecDepth 100000 in
theorem alone24_7 (width : Int) (a : Option Addr) (n cap : Nat) (A B : Int) (hw0 : 1 ≤ width) (hw1 : width ≤ 3) (hA : i64b A) (hB : i64b B) (hn9 : n ≤ 9223372036854775807) (w : World) (hr : ∀ W, Below w.heap.size w W → Calls Try.prog 33 #[.slice a n cap, .int .i64 8] W fun e w' => e = .returned (.bool true) ∧ W = w') :
    Calls Try.prog 24 #[.agg #[.int .i64 7, .int .i64 width, .slice a n cap, .int .i64 A, .int .i64 B], .int .i64 8] w fun e w' => e = .returned (.bool (tagS 7 (n : Int) A B)) ∧ Below w.heap.size w w' := by
  obtain ⟨hA1, hA2⟩ := hA
  obtain ⟨hB1, hB2⟩ := hB
  have HR := Lib.hid hr
  clear hr
  by_cases hn : n = 1
  · obtain rfl := hn
    by_cases hAe : A = 0
    · subst hAe
      by_cases hBe : B = 0
      · subst hBe
        have TS := Lib.hid (show tagS 7 ((1 : Nat) : Int) 0 0 = true by first | (simp [tagS]; done) | (simp [tagS]; omega) | (simp_all [tagS]; done) | (simp_all [tagS]; omega))
        rw [TS.out]
        go_enter Try.func24, Try.ntmps24
        go_wp2_with fail
        refine (HR.out _ (below_alloc _ _)).mono ?_
        rintro e w1 ⟨rfl, rfl⟩
        go_wp2_with fail
        go_ret
        first | exact ⟨rfl, below_alloc _ _⟩ | exact ⟨ret_bool (decide_eq_true (by omega)), below_alloc _ _⟩ | exact ⟨ret_bool (decide_eq_false (by omega)), below_alloc _ _⟩
      · have gB : (B == 0) = false := by simp only [beq_eq_false_iff_ne, ne_eq]; exact hBe
        have gB' : decide (B = 0) = false := decide_eq_false hBe
        have GB := Lib.hid gB'
        clear hBe gB'
        have TS := Lib.hid (show tagS 7 ((1 : Nat) : Int) 0 B = false by first | (simp [tagS]; done) | (simp [tagS]; omega) | (simp_all [tagS]; done) | (simp_all [tagS]; omega))
        rw [TS.out]
        go_enter Try.func24, Try.ntmps24
        go_wp2_with fail
        refine (HR.out _ (below_alloc _ _)).mono ?_
        rintro e w1 ⟨rfl, rfl⟩
        go_wp2_with fail
        go_ret
        first | exact ⟨rfl, below_alloc _ _⟩ | exact ⟨ret_bool (decide_eq_true (by omega)), below_alloc _ _⟩ | exact ⟨ret_bool (decide_eq_false (by omega)), below_alloc _ _⟩
    · have gA : (A == 0) = false := by simp only [beq_eq_false_iff_ne, ne_eq]; exact hAe
      have gA' : decide (A = 0) = false := decide_eq_false hAe
      have GA := Lib.hid gA'
      clear hAe gA'
      have TS := Lib.hid (show tagS 7 ((1 : Nat) : Int) A B = false by first | (simp [tagS]; done) | (simp [tagS]; omega) | (simp_all [tagS]; done) | (simp_all [tagS]; omega))
      rw [TS.out]
      go_enter Try.func24, Try.ntmps24
      go_wp2_with fail
      refine (HR.out _ (below_alloc _ _)).mono ?_
      rintro e w1 ⟨rfl, rfl⟩
      go_wp2_with fail
      go_ret
      first | exact ⟨rfl, below_alloc _ _⟩ | exact ⟨ret_bool (decide_eq_true (by omega)), below_alloc _ _⟩ | exact ⟨ret_bool (decide_eq_false (by omega)), below_alloc _ _⟩
  · have gn : ((n : Int) == 1) = false := by simp only [beq_eq_false_iff_ne, ne_eq]; omega
    have gn' : ((n : Int) != 1) = true := by simp only [bne_iff_ne, ne_eq]; omega
    have Dn := Lib.hid (show decide ((n : Int) = 1) = false from decide_eq_false (by omega))
    clear hn
    have TS := Lib.hid (show tagS 7 ((n : Nat) : Int) A B = false by first | (simp [tagS]; done) | (simp [tagS]; omega) | (simp_all [tagS]; done) | (simp_all [tagS]; omega))
    rw [TS.out]
    go_enter Try.func24, Try.ntmps24
    go_wp2_with fail
    refine (HR.out _ (below_alloc _ _)).mono ?_
    rintro e w1 ⟨rfl, rfl⟩
    go_wp2_with fail
    go_ret
    first | exact ⟨rfl, below_alloc _ _⟩ | exact ⟨ret_bool (decide_eq_true (by omega)), below_alloc _ _⟩ | exact ⟨ret_bool (decide_eq_false (by omega)), below_alloc _ _⟩

set_option maxHeartbeats 4000000 in
set_option maxRecDepth 100000 in
theorem alone24_0 (tag : Int) (width : Int) (a : Option Addr) (n cap : Nat) (A B : Int) (hw0 : 1 ≤ width) (hw1 : width ≤ 3) (hA : i64b A) (hB : i64b B) (hn9 : n ≤ 9223372036854775807) (k1 : (tag == 1) = false) (k2 : (tag == 2) = false) (k3 : (tag == 3) = false) (k4 : (tag == 4) = false) (k5 : (tag == 5) = false) (k6 : (tag == 6) = false) (k7 : (tag == 7) = false) (w : World) (hr : ∀ W, Below w.heap.size w W → Calls Try.prog 33 #[.slice a n cap, .int .i64 8] W fun e w' => e = .returned (.bool true) ∧ W = w') :
    Calls Try.prog 24 #[.agg #[.int .i64 tag, .int .i64 width, .slice a n cap, .int .i64 A, .int .i64 B], .int .i64 8] w fun e w' => e = .returned (.bool (tagS tag (n : Int) A B)) ∧ Below w.heap.size w w' := by
  obtain ⟨hA1, hA2⟩ := hA
  obtain ⟨hB1, hB2⟩ := hB
  have HR := Lib.hid hr
  clear hr
  have TS := Lib.hid (show tagS tag (n : Int) A B = false by simp only [beq_eq_false_iff_ne, ne_eq] at k1 k2 k3 k4 k5 k6 k7; simp [tagS, k1, k2, k3, k4, k5, k6, k7])
  rw [TS.out]
  by_cases hn : n = 1
  · obtain rfl := hn
    go_enter Try.func24, Try.ntmps24
    go_wp2_with fail
    refine (HR.out _ (below_alloc _ _)).mono ?_
    rintro e w1 ⟨rfl, rfl⟩
    go_wp2_with fail
    go_ret
    exact ⟨rfl, below_alloc _ _⟩
  · have gn : ((n : Int) == 1) = false := by simp only [beq_eq_false_iff_ne, ne_eq]; omega
    have gn' : ((n : Int) != 1) = true := by simp only [bne_iff_ne, ne_eq]; omega
    clear hn
    go_enter Try.func24, Try.ntmps24
    go_wp2_with fail
    refine (HR.out _ (below_alloc _ _)).mono ?_
    rintro e w1 ⟨rfl, rfl⟩
    go_wp2_with fail
    go_ret
    exact ⟨rfl, below_alloc _ _⟩

set_option maxHeartbeats 1000000 in
set_option maxRecDepth 100000 in
theorem alone24_no (tag width : Int) (a : Option Addr) (n cap : Nat) (A B : Int) (r : Bool) (h : width < 1 ∨ 3 < width ∨ r = false) (hn9 : n ≤ 9223372036854775807) (w : World) (hr : ∀ W, Below w.heap.size w W → Calls Try.prog 33 #[.slice a n cap, .int .i64 8] W fun e w' => e = .returned (.bool r) ∧ W = w') :
    Calls Try.prog 24 #[.agg #[.int .i64 tag, .int .i64 width, .slice a n cap, .int .i64 A, .int .i64 B], .int .i64 8] w fun e w' => e = .returned (.bool false) ∧ Below w.heap.size w w' := by
  have HR := Lib.hid hr
  clear hr
  by_cases h1 : width < 1
  · clear h
    go_enter Try.func24, Try.ntmps24
    go_wp2_with fail
    go_ret
    exact ⟨rfl, below_alloc _ _⟩
  · by_cases h2 : 3 < width
    · clear h
      go_enter Try.func24, Try.ntmps24
      go_wp2_with fail
      go_ret
      exact ⟨rfl, below_alloc _ _⟩
    · obtain rfl : r = false := by rcases h with h | h | h <;> first | omega | exact h
      clear h
      go_enter Try.func24, Try.ntmps24
      go_wp2_with fail
      refine (HR.out _ (below_alloc _ _)).mono ?_
      rintro e w1 ⟨rfl, rfl⟩
      go_wp2_with fail
      go_ret
      exact ⟨rfl, below_alloc _ _⟩

theorem alone_any (o : OpD) (ins : List Int) (w : World) (ho : o.ok) (hS : Sl EN w o.sl ins) (hi : ∀ x ∈ ins, i64b x) :
    Calls Try.prog 24 #[o.val, .int .i64 8] w fun e w' => e = .returned (.bool (aloneS o ins)) ∧ Below w.heap.size w w' := by
  obtain ⟨tag, width, a, n, cap, A, B⟩ := o
  obtain ⟨ht, hw, hA, hB⟩ := ho
  simp only at ht hw hA hB
  obtain ⟨a', cap', hv, hlc, hcm, -, -⟩ := hS.ex
  simp only [Value.slice.injEq] at hv
  obtain ⟨rfl, rfl, rfl⟩ := hv
  have hn9 : ins.length ≤ 9223372036854775807 := by unfold maxLen at hcm; omega
  rw [aloneS_eq]
  have hr : ∀ W, Below w.heap.size w W → Calls Try.prog 33 #[.slice a ins.length cap, .int .i64 8] W fun e w' => e = .returned (.bool (risesS 8 (-1) ins)) ∧ W = w' := fun W h => rises_any ins _ 8 (by omega) (by omega) W (hS.le h) hi
  by_cases h : 1 ≤ width ∧ width ≤ 3 ∧ risesS 8 (-1) ins = true
  · obtain ⟨h1, h2, h3⟩ := h
    rw [h3] at hr
    have e : (decide (1 ≤ width) && decide (width ≤ 3) && risesS 8 (-1) ins && tagS tag (ins.length : Int) A B) = tagS tag (ins.length : Int) A B := by simp [h1, h2, h3]
    rw [e]
    clear e h3 hS hi
    by_cases t1 : tag = 1
    · subst t1; exact alone24_1 width a _ cap A B h1 h2 hA hB hn9 w hr
    by_cases t2 : tag = 2
    · subst t2; exact alone24_2 width a _ cap A B h1 h2 hA hB hn9 w hr
    by_cases t3 : tag = 3
    · subst t3; exact alone24_3 width a _ cap A B h1 h2 hA hB hn9 w hr
    by_cases t4 : tag = 4
    · subst t4; exact alone24_4 width a _ cap A B h1 h2 hA hB hn9 w hr
    by_cases t5 : tag = 5
    · subst t5; exact alone24_5 width a _ cap A B h1 h2 hA hB hn9 w hr
    by_cases t6 : tag = 6
    · subst t6; exact alone24_6 width a _ cap A B h1 h2 hA hB hn9 w hr
    by_cases t7 : tag = 7
    · subst t7; exact alone24_7 width a _ cap A B h1 h2 hA hB hn9 w hr
    exact alone24_0 tag width a _ cap A B h1 h2 hA hB hn9 (beq_eq_false_iff_ne.2 t1) (beq_eq_false_iff_ne.2 t2) (beq_eq_false_iff_ne.2 t3) (beq_eq_false_iff_ne.2 t4) (beq_eq_false_iff_ne.2 t5) (beq_eq_false_iff_ne.2 t6) (beq_eq_false_iff_ne.2 t7) w hr
  · have e : (decide (1 ≤ width) && decide (width ≤ 3) && risesS 8 (-1) ins && tagS tag (ins.length : Int) A B) = false := by
      by_cases h1 : 1 ≤ width
      · by_cases h2 : width ≤ 3
        · have h3 : risesS 8 (-1) ins = false := by simpa using fun h3 => h ⟨h1, h2, h3⟩
          simp [h3]
        · simp [h2]
      · simp [h1]
    rw [e]
    refine alone24_no tag width a _ cap A B _ ?_ hn9 w hr
    by_cases h1 : 1 ≤ width
    · by_cases h2 : width ≤ 3
      · exact .inr (.inr (by simpa using fun h3 => h ⟨h1, h2, h3⟩))
      · exact .inr (.inl (by omega))
    · exact .inl (by omega)

end Go.Proofs.Ytipblkdekppbfaa
