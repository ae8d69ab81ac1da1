/- Walks: ops.Keeps, fits, right, Fits. Conditions: as each theorem states them. -/
import Derived.Test.YtipblkdekppbfaaC
namespace Go.Proofs.Ytipblkdekppbfaa
open Go.RowKit
set_option linter.unusedVariables false

set_option maxHeartbeats 1000000 in
theorem keeps_any (o : OpD) (w : World) : Calls Try.prog 18 #[o.val] w fun e w' => e = .returned (.bool (decide (o.tag = 4) || decide (o.tag = 5))) ∧ Below w.heap.size w w' := by
  obtain ⟨tag, width, a, n, cap, A, B⟩ := o
  by_cases h4 : tag = 4
  · subst h4
    go_enter Try.func18, Try.ntmps18
    go_wp2_with fail
    go_ret
    exact ⟨rfl, below_alloc _ _⟩
  · by_cases h5 : tag = 5
    · subst h5
      go_enter Try.func18, Try.ntmps18
      go_wp2_with fail
      go_ret
      exact ⟨rfl, below_alloc _ _⟩
    · have k4 : (tag == 4) = false := beq_eq_false_iff_ne.2 h4
      have k5 : (tag == 5) = false := beq_eq_false_iff_ne.2 h5
      have HD := Lib.hid (show (decide (tag = 4) || decide (tag = 5)) = false by simp [h4, h5])
      rw [HD.out]
      clear h4 h5
      go_enter Try.func18, Try.ntmps18
      go_wp2_with fail
      go_ret
      exact ⟨rfl, below_alloc _ _⟩

/-- two cells are one -/
theorem cell_eq (W : World) (a b c d : Int) : (binOp .eql 26 (.agg #[.int .i64 a, .int .i64 b]) (.agg #[.int .i64 c, .int .i64 d])).run Try.prog W = .ok (.bool (decide ((⟨a, b⟩ : CellD) = ⟨c, d⟩))) W := by
  have e : decide ((⟨a, b⟩ : CellD) = ⟨c, d⟩) = ((a == c) && (b == d)) := by
    rw [Bool.eq_iff_iff]; simp [CellD.mk.injEq]
  rw [e]
  cases h1 : (a == c) <;> cases h2 : (b == d) <;> simp [go_sem, h1, h2]

set_option maxHeartbeats 4000000 in
set_option maxRecDepth 100000 in
theorem fits_any (o : OpD) (c : CellD) (hA : i64b o.A) (hc : c.ok) (w : World) : Calls Try.prog 39 #[o.val, c.val] w fun e w' => e = .returned (.bool (fitsS o c)) ∧ Below w.heap.size w w' := by
  have hk := keeps_any o
  obtain ⟨tag, width, a, n, cap, A, B⟩ := o
  obtain ⟨cnt, sm⟩ := c
  obtain ⟨⟨hc1, hc2⟩, hs1, hs2⟩ := hc
  obtain ⟨hA1, hA2⟩ := hA
  simp only at hc1 hc2 hs1 hs2 hA1 hA2
  by_cases h4 : tag = 4
  · subst h4
    have HK := Lib.hid (show ∀ w, Calls Try.prog 18 #[(⟨4, width, a, n, cap, A, B⟩ : OpD).val] w fun e w' => e = .returned (.bool true) ∧ Below w.heap.size w w' from fun w => by have := hk w; simpa using this)
    clear hk
    by_cases c1 : cnt = 0
    · subst c1
      by_cases c2 : sm = 0
      · subst c2
        have HF := Lib.hid (show fitsS ⟨4, width, a, n, cap, A, B⟩ ⟨0, 0⟩ = true by first | (simp [fitsS, soundS, zeroC]; done) | (simp [fitsS, soundS, zeroC]; omega) | (simp [fitsS, soundS, zeroC, *]; done) | (simp [fitsS, soundS, zeroC, *]; omega))
        rw [HF.out]
        go_enter Try.func39, Try.ntmps39
        go_wp2_with fail
        refine (HK.out _).mono ?_
        rintro e w1 ⟨rfl, hb⟩
        obtain ⟨e1, e2, e3⟩ := alloc2 w (.cells #[.int .i64 4, .int .i64 width, .slice a n cap, .int .i64 A, .int .i64 B] 24) (.cells #[.int .i64 0, .int .i64 0] 26)
        have B1 := Lib.hid (bt e3 hb)
        obtain ⟨r1, -⟩ := blk (blk_le e1 hb)
        obtain ⟨r2, -⟩ := blk (blk_le e2 hb)
        clear e1 e2 e3 hb
        go_wp2_with fail
        go_ret
        first | exact ⟨rfl, B1.out⟩ | (refine ⟨ret_bool ?_, B1.out⟩; simp; done) | (refine ⟨ret_bool ?_, B1.out⟩; simp; omega)
      · have g2 : (sm == 0) = false := beq_eq_false_iff_ne.2 c2
        have C2 := Lib.hid c2
        have c2' := C2.out
        clear c2'
        have HF := Lib.hid (show fitsS ⟨4, width, a, n, cap, A, B⟩ ⟨0, sm⟩ = false by first | (simp [fitsS, soundS, zeroC]; done) | (simp [fitsS, soundS, zeroC]; omega) | (simp [fitsS, soundS, zeroC, *]; done) | (simp [fitsS, soundS, zeroC, *]; omega))
        rw [HF.out]
        go_enter Try.func39, Try.ntmps39
        go_wp2_with fail
        refine (HK.out _).mono ?_
        rintro e w1 ⟨rfl, hb⟩
        obtain ⟨e1, e2, e3⟩ := alloc2 w (.cells #[.int .i64 4, .int .i64 width, .slice a n cap, .int .i64 A, .int .i64 B] 24) (.cells #[.int .i64 0, .int .i64 sm] 26)
        have B1 := Lib.hid (bt e3 hb)
        obtain ⟨r1, -⟩ := blk (blk_le e1 hb)
        obtain ⟨r2, -⟩ := blk (blk_le e2 hb)
        clear e1 e2 e3 hb
        go_wp2_with fail
        go_ret
        first | exact ⟨rfl, B1.out⟩ | (refine ⟨ret_bool ?_, B1.out⟩; simp; done) | (refine ⟨ret_bool ?_, B1.out⟩; simp; omega)
    · have g1 : (cnt == 0) = false := beq_eq_false_iff_ne.2 c1
      by_cases c3 : 0 < cnt
      · skip
        have HF := Lib.hid (show fitsS ⟨4, width, a, n, cap, A, B⟩ ⟨cnt, sm⟩ = true by first | (simp [fitsS, soundS, zeroC]; done) | (simp [fitsS, soundS, zeroC]; omega) | (simp [fitsS, soundS, zeroC, *]; done) | (simp [fitsS, soundS, zeroC, *]; omega))
        rw [HF.out]
        go_enter Try.func39, Try.ntmps39
        go_wp2_with fail
        refine (HK.out _).mono ?_
        rintro e w1 ⟨rfl, hb⟩
        obtain ⟨e1, e2, e3⟩ := alloc2 w (.cells #[.int .i64 4, .int .i64 width, .slice a n cap, .int .i64 A, .int .i64 B] 24) (.cells #[.int .i64 cnt, .int .i64 sm] 26)
        have B1 := Lib.hid (bt e3 hb)
        obtain ⟨r1, -⟩ := blk (blk_le e1 hb)
        obtain ⟨r2, -⟩ := blk (blk_le e2 hb)
        clear e1 e2 e3 hb
        go_wp2_with fail
        go_ret
        first | exact ⟨rfl, B1.out⟩ | (refine ⟨ret_bool ?_, B1.out⟩; simp; done) | (refine ⟨ret_bool ?_, B1.out⟩; simp; omega)
      · skip
        have HF := Lib.hid (show fitsS ⟨4, width, a, n, cap, A, B⟩ ⟨cnt, sm⟩ = false by first | (simp [fitsS, soundS, zeroC]; done) | (simp [fitsS, soundS, zeroC]; omega) | (simp [fitsS, soundS, zeroC, *]; done) | (simp [fitsS, soundS, zeroC, *]; omega))
        rw [HF.out]
        go_enter Try.func39, Try.ntmps39
        go_wp2_with fail
        refine (HK.out _).mono ?_
        rintro e w1 ⟨rfl, hb⟩
        obtain ⟨e1, e2, e3⟩ := alloc2 w (.cells #[.int .i64 4, .int .i64 width, .slice a n cap, .int .i64 A, .int .i64 B] 24) (.cells #[.int .i64 cnt, .int .i64 sm] 26)
        have B1 := Lib.hid (bt e3 hb)
        obtain ⟨r1, -⟩ := blk (blk_le e1 hb)
        obtain ⟨r2, -⟩ := blk (blk_le e2 hb)
        clear e1 e2 e3 hb
        go_wp2_with fail
        go_ret
        first | exact ⟨rfl, B1.out⟩ | (refine ⟨ret_bool ?_, B1.out⟩; simp; done) | (refine ⟨ret_bool ?_, B1.out⟩; simp; omega)
  · by_cases h5 : tag = 5
    · subst h5
      have HK := Lib.hid (show ∀ w, Calls Try.prog 18 #[(⟨5, width, a, n, cap, A, B⟩ : OpD).val] w fun e w' => e = .returned (.bool true) ∧ Below w.heap.size w w' from fun w => by have := hk w; simpa using this)
      clear hk
      by_cases c1 : cnt = 0
      · subst c1
        by_cases c2 : sm = 0
        · subst c2
          by_cases hlt : 0 < A
          · have DL := Lib.hid hlt
            have HF := Lib.hid (show fitsS ⟨5, width, a, n, cap, A, B⟩ ⟨0, 0⟩ = true by first | (simp [fitsS, soundS, zeroC]; done) | (simp [fitsS, soundS, zeroC]; omega) | (simp [fitsS, soundS, zeroC, *]; done) | (simp [fitsS, soundS, zeroC, *]; omega))
            rw [HF.out]
            go_enter Try.func39, Try.ntmps39
            go_wp2_with fail
            refine (HK.out _).mono ?_
            rintro e w1 ⟨rfl, hb⟩
            obtain ⟨e1, e2, e3⟩ := alloc2 w (.cells #[.int .i64 5, .int .i64 width, .slice a n cap, .int .i64 A, .int .i64 B] 24) (.cells #[.int .i64 0, .int .i64 0] 26)
            have B1 := Lib.hid (bt e3 hb)
            obtain ⟨r1, -⟩ := blk (blk_le e1 hb)
            obtain ⟨r2, -⟩ := blk (blk_le e2 hb)
            clear e1 e2 e3 hb
            go_wp2_with fail
            go_ret
            first | exact ⟨rfl, B1.out⟩ | (refine ⟨ret_bool ?_, B1.out⟩; simp; done) | (refine ⟨ret_bool ?_, B1.out⟩; simp; omega)
          · have DL := Lib.hid hlt
            have HF := Lib.hid (show fitsS ⟨5, width, a, n, cap, A, B⟩ ⟨0, 0⟩ = false by first | (simp [fitsS, soundS, zeroC]; done) | (simp [fitsS, soundS, zeroC]; omega) | (simp [fitsS, soundS, zeroC, *]; done) | (simp [fitsS, soundS, zeroC, *]; omega))
            rw [HF.out]
            go_enter Try.func39, Try.ntmps39
            go_wp2_with fail
            refine (HK.out _).mono ?_
            rintro e w1 ⟨rfl, hb⟩
            obtain ⟨e1, e2, e3⟩ := alloc2 w (.cells #[.int .i64 5, .int .i64 width, .slice a n cap, .int .i64 A, .int .i64 B] 24) (.cells #[.int .i64 0, .int .i64 0] 26)
            have B1 := Lib.hid (bt e3 hb)
            obtain ⟨r1, -⟩ := blk (blk_le e1 hb)
            obtain ⟨r2, -⟩ := blk (blk_le e2 hb)
            clear e1 e2 e3 hb
            go_wp2_with fail
            go_ret
            first | exact ⟨rfl, B1.out⟩ | (refine ⟨ret_bool ?_, B1.out⟩; simp; done) | (refine ⟨ret_bool ?_, B1.out⟩; simp; omega)
        · have g2 : (sm == 0) = false := beq_eq_false_iff_ne.2 c2
          have C2 := Lib.hid c2
          have c2' := C2.out
          clear c2'
          have HF := Lib.hid (show fitsS ⟨5, width, a, n, cap, A, B⟩ ⟨0, sm⟩ = false by first | (simp [fitsS, soundS, zeroC]; done) | (simp [fitsS, soundS, zeroC]; omega) | (simp [fitsS, soundS, zeroC, *]; done) | (simp [fitsS, soundS, zeroC, *]; omega))
          rw [HF.out]
          go_enter Try.func39, Try.ntmps39
          go_wp2_with fail
          refine (HK.out _).mono ?_
          rintro e w1 ⟨rfl, hb⟩
          obtain ⟨e1, e2, e3⟩ := alloc2 w (.cells #[.int .i64 5, .int .i64 width, .slice a n cap, .int .i64 A, .int .i64 B] 24) (.cells #[.int .i64 0, .int .i64 sm] 26)
          have B1 := Lib.hid (bt e3 hb)
          obtain ⟨r1, -⟩ := blk (blk_le e1 hb)
          obtain ⟨r2, -⟩ := blk (blk_le e2 hb)
          clear e1 e2 e3 hb
          go_wp2_with fail
          go_ret
          first | exact ⟨rfl, B1.out⟩ | (refine ⟨ret_bool ?_, B1.out⟩; simp; done) | (refine ⟨ret_bool ?_, B1.out⟩; simp; omega)
      · have g1 : (cnt == 0) = false := beq_eq_false_iff_ne.2 c1
        by_cases c3 : 0 < cnt
        · skip
          by_cases hlt : cnt < A
          · have DL := Lib.hid hlt
            have HF := Lib.hid (show fitsS ⟨5, width, a, n, cap, A, B⟩ ⟨cnt, sm⟩ = true by first | (simp [fitsS, soundS, zeroC]; done) | (simp [fitsS, soundS, zeroC]; omega) | (simp [fitsS, soundS, zeroC, *]; done) | (simp [fitsS, soundS, zeroC, *]; omega))
            rw [HF.out]
            go_enter Try.func39, Try.ntmps39
            go_wp2_with fail
            refine (HK.out _).mono ?_
            rintro e w1 ⟨rfl, hb⟩
            obtain ⟨e1, e2, e3⟩ := alloc2 w (.cells #[.int .i64 5, .int .i64 width, .slice a n cap, .int .i64 A, .int .i64 B] 24) (.cells #[.int .i64 cnt, .int .i64 sm] 26)
            have B1 := Lib.hid (bt e3 hb)
            obtain ⟨r1, -⟩ := blk (blk_le e1 hb)
            obtain ⟨r2, -⟩ := blk (blk_le e2 hb)
            clear e1 e2 e3 hb
            go_wp2_with fail
            go_ret
            first | exact ⟨rfl, B1.out⟩ | (refine ⟨ret_bool ?_, B1.out⟩; simp; done) | (refine ⟨ret_bool ?_, B1.out⟩; simp; omega)
          · have DL := Lib.hid hlt
            have HF := Lib.hid (show fitsS ⟨5, width, a, n, cap, A, B⟩ ⟨cnt, sm⟩ = false by first | (simp [fitsS, soundS, zeroC]; done) | (simp [fitsS, soundS, zeroC]; omega) | (simp [fitsS, soundS, zeroC, *]; done) | (simp [fitsS, soundS, zeroC, *]; omega))
            rw [HF.out]
            go_enter Try.func39, Try.ntmps39
            go_wp2_with fail
            refine (HK.out _).mono ?_
            rintro e w1 ⟨rfl, hb⟩
            obtain ⟨e1, e2, e3⟩ := alloc2 w (.cells #[.int .i64 5, .int .i64 width, .slice a n cap, .int .i64 A, .int .i64 B] 24) (.cells #[.int .i64 cnt, .int .i64 sm] 26)
            have B1 := Lib.hid (bt e3 hb)
            obtain ⟨r1, -⟩ := blk (blk_le e1 hb)
            obtain ⟨r2, -⟩ := blk (blk_le e2 hb)
            clear e1 e2 e3 hb
            go_wp2_with fail
            go_ret
            first | exact ⟨rfl, B1.out⟩ | (refine ⟨ret_bool ?_, B1.out⟩; simp; done) | (refine ⟨ret_bool ?_, B1.out⟩; simp; omega)
        · skip
          have HF := Lib.hid (show fitsS ⟨5, width, a, n, cap, A, B⟩ ⟨cnt, sm⟩ = false by first | (simp [fitsS, soundS, zeroC]; done) | (simp [fitsS, soundS, zeroC]; omega) | (simp [fitsS, soundS, zeroC, *]; done) | (simp [fitsS, soundS, zeroC, *]; omega))
          rw [HF.out]
          go_enter Try.func39, Try.ntmps39
          go_wp2_with fail
          refine (HK.out _).mono ?_
          rintro e w1 ⟨rfl, hb⟩
          obtain ⟨e1, e2, e3⟩ := alloc2 w (.cells #[.int .i64 5, .int .i64 width, .slice a n cap, .int .i64 A, .int .i64 B] 24) (.cells #[.int .i64 cnt, .int .i64 sm] 26)
          have B1 := Lib.hid (bt e3 hb)
          obtain ⟨r1, -⟩ := blk (blk_le e1 hb)
          obtain ⟨r2, -⟩ := blk (blk_le e2 hb)
          clear e1 e2 e3 hb
          go_wp2_with fail
          go_ret
          first | exact ⟨rfl, B1.out⟩ | (refine ⟨ret_bool ?_, B1.out⟩; simp; done) | (refine ⟨ret_bool ?_, B1.out⟩; simp; omega)
    · have k4 : (tag == 4) = false := beq_eq_false_iff_ne.2 h4
      have k5 : (tag == 5) = false := beq_eq_false_iff_ne.2 h5
      have HK := Lib.hid (show ∀ w, Calls Try.prog 18 #[(⟨tag, width, a, n, cap, A, B⟩ : OpD).val] w fun e w' => e = .returned (.bool false) ∧ Below w.heap.size w w' from fun w => by have := hk w; simpa [h4, h5] using this)
      clear hk
      by_cases c1 : cnt = 0
      · subst c1
        by_cases c2 : sm = 0
        · subst c2
          have HF := Lib.hid (show fitsS ⟨tag, width, a, n, cap, A, B⟩ ⟨0, 0⟩ = true by first | (simp [fitsS, soundS, zeroC]; done) | (simp [fitsS, soundS, zeroC]; omega) | (simp [fitsS, soundS, zeroC, *]; done) | (simp [fitsS, soundS, zeroC, *]; omega))
          rw [HF.out]
          go_enter Try.func39, Try.ntmps39
          go_wp2_with fail
          refine (HK.out _).mono ?_
          rintro e w1 ⟨rfl, hb⟩
          obtain ⟨e1, e2, e3⟩ := alloc2 w (.cells #[.int .i64 tag, .int .i64 width, .slice a n cap, .int .i64 A, .int .i64 B] 24) (.cells #[.int .i64 0, .int .i64 0] 26)
          have B1 := Lib.hid (bt e3 hb)
          obtain ⟨r1, -⟩ := blk (blk_le e1 hb)
          obtain ⟨r2, -⟩ := blk (blk_le e2 hb)
          clear e1 e2 e3 hb
          go_wp2_with fail
          go_ret
          first | exact ⟨rfl, B1.out⟩ | (refine ⟨ret_bool ?_, B1.out⟩; simp; done) | (refine ⟨ret_bool ?_, B1.out⟩; simp; omega)
        · have g2 : (sm == 0) = false := beq_eq_false_iff_ne.2 c2
          have C2 := Lib.hid c2
          have c2' := C2.out
          clear c2'
          have HF := Lib.hid (show fitsS ⟨tag, width, a, n, cap, A, B⟩ ⟨0, sm⟩ = false by first | (simp [fitsS, soundS, zeroC]; done) | (simp [fitsS, soundS, zeroC]; omega) | (simp [fitsS, soundS, zeroC, *]; done) | (simp [fitsS, soundS, zeroC, *]; omega))
          rw [HF.out]
          go_enter Try.func39, Try.ntmps39
          go_wp2_with fail
          refine (HK.out _).mono ?_
          rintro e w1 ⟨rfl, hb⟩
          obtain ⟨e1, e2, e3⟩ := alloc2 w (.cells #[.int .i64 tag, .int .i64 width, .slice a n cap, .int .i64 A, .int .i64 B] 24) (.cells #[.int .i64 0, .int .i64 sm] 26)
          have B1 := Lib.hid (bt e3 hb)
          obtain ⟨r1, -⟩ := blk (blk_le e1 hb)
          obtain ⟨r2, -⟩ := blk (blk_le e2 hb)
          clear e1 e2 e3 hb
          go_wp2_with fail
          go_ret
          first | exact ⟨rfl, B1.out⟩ | (refine ⟨ret_bool ?_, B1.out⟩; simp; done) | (refine ⟨ret_bool ?_, B1.out⟩; simp; omega)
      · have g1 : (cnt == 0) = false := beq_eq_false_iff_ne.2 c1
        by_cases c3 : 0 < cnt
        · skip
          have HF := Lib.hid (show fitsS ⟨tag, width, a, n, cap, A, B⟩ ⟨cnt, sm⟩ = false by first | (simp [fitsS, soundS, zeroC]; done) | (simp [fitsS, soundS, zeroC]; omega) | (simp [fitsS, soundS, zeroC, *]; done) | (simp [fitsS, soundS, zeroC, *]; omega))
          rw [HF.out]
          go_enter Try.func39, Try.ntmps39
          go_wp2_with fail
          refine (HK.out _).mono ?_
          rintro e w1 ⟨rfl, hb⟩
          obtain ⟨e1, e2, e3⟩ := alloc2 w (.cells #[.int .i64 tag, .int .i64 width, .slice a n cap, .int .i64 A, .int .i64 B] 24) (.cells #[.int .i64 cnt, .int .i64 sm] 26)
          have B1 := Lib.hid (bt e3 hb)
          obtain ⟨r1, -⟩ := blk (blk_le e1 hb)
          obtain ⟨r2, -⟩ := blk (blk_le e2 hb)
          clear e1 e2 e3 hb
          go_wp2_with fail
          go_ret
          first | exact ⟨rfl, B1.out⟩ | (refine ⟨ret_bool ?_, B1.out⟩; simp; done) | (refine ⟨ret_bool ?_, B1.out⟩; simp; omega)
        · skip
          have HF := Lib.hid (show fitsS ⟨tag, width, a, n, cap, A, B⟩ ⟨cnt, sm⟩ = false by first | (simp [fitsS, soundS, zeroC]; done) | (simp [fitsS, soundS, zeroC]; omega) | (simp [fitsS, soundS, zeroC, *]; done) | (simp [fitsS, soundS, zeroC, *]; omega))
          rw [HF.out]
          go_enter Try.func39, Try.ntmps39
          go_wp2_with fail
          refine (HK.out _).mono ?_
          rintro e w1 ⟨rfl, hb⟩
          obtain ⟨e1, e2, e3⟩ := alloc2 w (.cells #[.int .i64 tag, .int .i64 width, .slice a n cap, .int .i64 A, .int .i64 B] 24) (.cells #[.int .i64 cnt, .int .i64 sm] 26)
          have B1 := Lib.hid (bt e3 hb)
          obtain ⟨r1, -⟩ := blk (blk_le e1 hb)
          obtain ⟨r2, -⟩ := blk (blk_le e2 hb)
          clear e1 e2 e3 hb
          go_wp2_with fail
          go_ret
          first | exact ⟨rfl, B1.out⟩ | (refine ⟨ret_bool ?_, B1.out⟩; simp; done) | (refine ⟨ret_bool ?_, B1.out⟩; simp; omega)

/-- why an operator can't do anything with a cell -/
def rightS (o : OpD) (ins : List Int) (c : CellD) : Int := if aloneS o ins = false then 180 else if fitsS o c = false then 181 else 0

set_option maxHeartbeats 1000000 in
theorem right_any (o : OpD) (ins : List Int) (c : CellD) (w : World) (ho : o.ok) (hS : Sl EN w o.sl ins) (hi : ∀ x ∈ ins, i64b x) (hc : c.ok) :
    Calls Try.prog 31 #[o.val, c.val] w fun e w' => e = .returned (.int .i64 (rightS o ins c)) ∧ Below w.heap.size w w' := by
  have HA := Lib.hid (show ∀ W, Below w.heap.size w W → Calls Try.prog 24 #[o.val, .int .i64 8] W fun e w' => e = .returned (.bool (aloneS o ins)) ∧ Below W.heap.size W w' from fun W h => alone_any o ins W ho (hS.le h) hi)
  have HF := Lib.hid (fits_any o c ho.2.2.1 hc)
  have HD := Lib.hid (show rightS o ins c = if aloneS o ins = false then 180 else if fitsS o c = false then 181 else 0 from rfl)
  generalize aloneS o ins = al at *
  generalize fitsS o c = fi at *
  obtain ⟨tag, width, a, n, cap, A, B⟩ := o
  obtain ⟨cnt, sm⟩ := c
  obtain ⟨e1, e2, e3⟩ := alloc2 w (.cells #[.int .i64 tag, .int .i64 width, .slice a n cap, .int .i64 A, .int .i64 B] 24) (.cells #[.int .i64 cnt, .int .i64 sm] 26)
  have E1 := Lib.hid e1; have E2 := Lib.hid e2; have E3 := Lib.hid e3
  clear e1 e2 e3 hS hi
  cases al with
  | false =>
    go_enter Try.func31, Try.ntmps31
    go_wp2_with fail
    refine (HA.out _ E3.out).mono ?_
    rintro e w1 ⟨rfl, hb⟩
    have X1 := Lib.hid (bt E3.out hb)
    clear hb
    go_wp2_with fail
    go_ret
    exact ⟨by rw [HD.out]; rfl, X1.out⟩
  | true =>
    go_enter Try.func31, Try.ntmps31
    go_wp2_with fail
    refine (HA.out _ E3.out).mono ?_
    rintro e w1 ⟨rfl, hb⟩
    have X1 := Lib.hid (bt E3.out hb)
    obtain ⟨r1, -⟩ := blk (blk_le E1.out hb)
    obtain ⟨r2, -⟩ := blk (blk_le E2.out hb)
    clear hb
    go_wp2_with fail
    refine (HF.out _).mono ?_
    rintro e w2 ⟨rfl, hb⟩
    have X2 := Lib.hid (bt X1.out hb)
    clear hb
    cases fi with
    | false =>
      go_wp2_with fail
      go_ret
      exact ⟨by rw [HD.out]; rfl, X2.out⟩
    | true =>
      go_wp2_with fail
      go_ret
      exact ⟨by rw [HD.out]; rfl, X2.out⟩

set_option maxHeartbeats 1000000 in
theorem Fits_any (o : OpD) (ins : List Int) (c : CellD) (w : World) (ho : o.ok) (hS : Sl EN w o.sl ins) (hi : ∀ x ∈ ins, i64b x) (hc : c.ok) :
    Calls Try.prog 19 #[o.val, c.val] w fun e w' => e = .returned (.bool (rightS o ins c == 0)) ∧ Below w.heap.size w w' := by
  have HA := Lib.hid (show ∀ W, Below w.heap.size w W → Calls Try.prog 31 #[o.val, c.val] W fun e w' => e = .returned (.int .i64 (rightS o ins c)) ∧ Below W.heap.size W w' from fun W h => right_any o ins c W ho (hS.le h) hi hc)
  generalize rightS o ins c = r at *
  obtain ⟨tag, width, a, n, cap, A, B⟩ := o
  obtain ⟨cnt, sm⟩ := c
  obtain ⟨-, -, e3⟩ := alloc2 w (.cells #[.int .i64 tag, .int .i64 width, .slice a n cap, .int .i64 A, .int .i64 B] 24) (.cells #[.int .i64 cnt, .int .i64 sm] 26)
  have E3 := Lib.hid e3
  clear e3 hS hi
  go_enter Try.func19, Try.ntmps19
  go_wp2_with fail
  refine (HA.out _ E3.out).mono ?_
  rintro e w1 ⟨rfl, hb⟩
  have X1 := Lib.hid (bt E3.out hb)
  clear hb
  go_wp2_with fail
  go_ret
  exact ⟨rfl, X1.out⟩
end Go.Proofs.Ytipblkdekppbfaa
