/- Walk: headraceref01.Give. Conditions: as each theorem states them. -/
import Derived.Test.YtclhhnmafmicpaaC
namespace Go.Proofs.Ytclhhnmafmicpaa
open Go.RowKit
set_option linter.unusedVariables false

set_option maxHeartbeats 400000 in
theorem give_ref (held : List UInt8) (vh : Value) (r n : Int) (W : World) (w : World) (hB : Sl EB W vh held) (hW : Below W.heap.size W w) (hl : held.length ≤ 1000000) :
   Calls Try.prog 25 #[.agg #[vh, .int .i64 r], .int .i64 n] w fun e w' => ∃ vh' v, e = .returned (.tuple #[.agg #[vh', .int .i64 (giveR held r n).2.1], v]) ∧ Sl EB W vh' (giveR held r n).1 ∧ (∀ k, vh'.ownBlock = some k → vh.ownBlock = some k) ∧ Own EB w' w.heap.size v (giveR held r n).2.2 ∧ Below w.heap.size w w' := by
  obtain ⟨aa, ca, hv, _⟩ := hB.ex
  subst hv
  have HB := Lib.hid hB
  clear hB
  by_cases h1 : r = 0
  · subst h1
    by_cases h2 : n < 0
    · have HG := Lib.hid (show giveR held 0 n = (held, 2, []) by simp [giveR, h2])
      go_enter Try.func25, Try.ntmps25
      go_wp2_with fail
      go_returns
      refine ⟨.slice aa held.length ca, .slice none 0 0, by rw [HG.out], ?_, fun k hk => hk, by rw [HG.out]; exact Own.nil _ _ _, by go_grown⟩
      rw [HG.out]; exact HB.out
    · by_cases h3 : (held.length : Int) < n
      · have HG := Lib.hid (show giveR held 0 n = (held, 7, []) by simp [giveR, h2, h3])
        go_enter Try.func25, Try.ntmps25
        go_wp2_with fail
        go_returns
        refine ⟨.slice aa held.length ca, .slice none 0 0, by rw [HG.out], ?_, fun k hk => hk, by rw [HG.out]; exact Own.nil _ _ _, by go_grown⟩
        rw [HG.out]; exact HB.out
      · have HG := Lib.hid (show giveR held 0 n = (held.drop n.toNat, 0, held.take n.toNat) by simp [giveR, h2, h3])
        obtain ⟨hs1, hs2⟩ := HB.out.slice_hi eB (t := 22) Try.underlying22 .i64 n (by omega) (by omega)
        obtain ⟨A, C, hs3, hs4, hs5⟩ := HB.out.slice_lo eB (t := 22) Try.underlying22 .i64 n (by omega) (by omega)
        have HS2 := Lib.hid (hs2.le hW); have HS4 := Lib.hid hs4; have HS5 := Lib.hid hs5
        clear hs2 hs4 hs5
        go_enter Try.func25, Try.ntmps25
        go_wp2_with fail
        obtain ⟨W0, e0, hw0, f1, f2⟩ : ∃ W0, W0 = ((w.alloc (.cells #[.slice aa held.length ca, .int .i64 0] 42)).alloc (.cells #[.slice none 0 0, .int .i64 0] 42)) ∧ Below w.heap.size w W0 ∧
            W0.heap[w.heap.size]? = some (.cells #[.slice aa held.length ca, .int .i64 0] 42) ∧ W0.heap[w.heap.size + 1]? = some (.cells #[.slice none 0 0, .int .i64 0] 42) :=
          ⟨_, rfl, (below_alloc w _).alloc (by simp) _, heap_alloc2_old _ _ _, heap_alloc2_new _ _ _⟩
        rw [← e0]
        clear e0
        have hl2 : (held.take n.toNat).length ≤ 1000000 := by rw [List.length_take]; omega
        have hz := lt_of_block f2
        have HW := Lib.hid hw0
        obtain ⟨g1, g1'⟩ := blk f1
        have F2 := Lib.hid f2
        have F1 := Lib.hid f1
        clear hw0 f1 f2
        go_region_held3 (fun w' => w'.cell? ⟨w.heap.size, 0, none⟩ = some (.slice aa held.length ca)) (first | go_keep | exact f1')
          (first | (go_at_call 17; refine (both_any (held.take n.toNat) [] _ _ _ (HS2.out.le HW.out.drew) (Sl.nil _ _) hl2 (by simp)).mono ?_; rintro e w1 ⟨v, rfl, hown, hb⟩; have f1' := (blk (blk_le (w := W0.drew) F1.out hb)).1 0; obtain ⟨g2, g2'⟩ := blk (blk_le (w := W0.drew) F2.out hb); simp only [List.getElem?_toArray, List.getElem?_cons_zero] at f1'))
        go_wp2_with fail
        have F2' := blk_le (w := W0.drew) F2.out hb
        have F3 := blk_set (i := 0) F2' (.slice A (held.length - n.toNat) C)
        have F4 := blk_set (i := 1) F3 (.int .i64 0)
        obtain ⟨q1, _⟩ := blk F3
        obtain ⟨q2, _⟩ := blk F4
        have hb0 : Below w.heap.size w w1 := HW.out.drew.trans (hb.mono (by show _ ≤ W0.heap.size; omega))
        refine bodyPost_ret (v := .tuple #[.agg #[.slice A (held.length - n.toNat) C, .int .i64 0], v]) (by simp [results, Try.results25, go_sem, q2]) rfl ⟨.slice A (held.length - n.toNat) C, v, by rw [HG.out], ?_, ?_, ?_, ?_⟩
        · rw [HG.out]; exact HS4.out
        · intro k hk
          cases A with
          | none => cases hk
          | some x =>
            obtain ⟨y, rfl, h6, _⟩ := HS5.out x rfl
            simp only [Value.ownBlock, Option.some.injEq] at hk ⊢
            omega
        · rw [HG.out]
          have ho : Own EB w1 W0.heap.size v (held.take n.toNat) := by simpa using hown
          have ho2 := ownsRow_setCell_below (ownsRow_setCell_below ho (a := ⟨w.heap.size + 1, 0, none⟩) hz (.slice A (held.length - n.toNat) C)) (a := ⟨w.heap.size + 1, 1, none⟩) hz (.int .i64 0)
          exact Own.mono ho2 (by omega)
        · exact (hb0.setCell (by simp) _).setCell (by simp) _
  · have HG := Lib.hid (show giveR held r n = (held, r, []) by simp [giveR, h1])
    have h1' : (r != 0) = true := by simp [h1]
    go_enter Try.func25, Try.ntmps25
    go_wp2_with fail
    go_returns
    refine ⟨.slice aa held.length ca, .slice none 0 0, by rw [HG.out], ?_, fun k hk => hk, by rw [HG.out]; exact Own.nil _ _ _, by go_grown⟩
    rw [HG.out]; exact HB.out

end Go.Proofs.Ytclhhnmafmicpaa
