/- Walk: headracelaw08.op. Conditions: as each theorem states them. -/
import Derived.Test.YtipblkdekppbfaaJ0
import Derived.Deep.CutBlock
namespace Go.Proofs.Ytipblkdekppbfaa
open Go.RowKit
set_option linter.unusedVariables false

theorem own_set {α : Type} {E : Enc α} {w : World} {base b : Nat} {v : Value} {l : List α} (h : Own E w base v l) (hb : b < base) (i : Nat) (u : Value) : Own E (w.setCell ⟨b, i, none⟩ u) base v l :=
  h.grown (grown_setCell w b i u) (.inr (fun e => by have := (h.lt _ e).1; omega))

set_option maxHeartbeats 2000000 in
theorem op_any (tag width A B : Int) (a : Option Addr) (n cap : Nat) (ins : List Int) (w : World) (hS : Sl EN w (.slice a n cap) ins) :
    Calls Try.prog 11 #[.agg #[.int .i64 tag, .int .i64 width, .slice a n cap, .int .i64 A, .int .i64 B]] w fun e w' => ∃ a' cap', e = .returned (.agg #[.int .i64 tag, .int .i64 width, .slice a' (ins.take 10).length cap', .int .i64 A, .int .i64 B]) ∧
      Own EN w' w.heap.size (.slice a' (ins.take 10).length cap') (ins.take 10) ∧ Below w.heap.size w w' := by
  obtain ⟨a0, cap0, hv, hlc, hcm, -⟩ := hS.ex
  simp only [Value.slice.injEq] at hv
  obtain ⟨rfl, rfl, rfl⟩ := hv
  have hll : ins.length ≤ 9223372036854775807 := by unfold maxLen at hcm; omega
  obtain ⟨m, hm, hm2⟩ : ∃ m : Nat, m = min ins.length 10 ∧ (if (10 : Int) < (ins.length : Int) then (10 : Int) else (ins.length : Int)) = (m : Int) := ⟨_, rfl, by split <;> omega⟩
  obtain ⟨is, his⟩ : ∃ is, ins.take 10 = is := ⟨_, rfl⟩
  have ht : ins.take m = is := by rw [← his, hm]; by_cases h : ins.length ≤ 10 <;> simp [List.take_of_length_le, h] <;> omega
  obtain ⟨hs1, hs2⟩ := hS.slice_hi eN (t := 22) Try.underlying22 .i64 (m : Int) (by omega) (by omega)
  simp only [Int.toNat_natCast] at hs1 hs2
  have hml : (ins.take m).length ≤ 10 := by rw [List.length_take]; omega
  rw [his]
  obtain ⟨e1, e2, e3⟩ := alloc2 w (.cells #[.int .i64 tag, .int .i64 width, .slice a ins.length cap, .int .i64 A, .int .i64 B] 24) (.cells #[.int .i64 0, .int .i64 0, .slice none 0 0, .int .i64 0, .int .i64 0] 24)
  have hsz : w.heap.size + 1 < ((w.alloc (.cells #[.int .i64 tag, .int .i64 width, .slice a ins.length cap, .int .i64 A, .int .i64 B] 24)).alloc (.cells #[.int .i64 0, .int .i64 0, .slice none 0 0, .int .i64 0, .int .i64 0] 24)).heap.size := lt_of_block e2
  have M := Own.made EN ((w.alloc (.cells #[.int .i64 tag, .int .i64 width, .slice a ins.length cap, .int .i64 A, .int .i64 B] 24)).alloc (.cells #[.int .i64 0, .int .i64 0, .slice none 0 0, .int .i64 0, .int .i64 0] 24)) [] #[] rfl (by simp [maxLen]) _ (Nat.le_refl _) 0 rfl
  have BA := below_alloc ((w.alloc (.cells #[.int .i64 tag, .int .i64 width, .slice a ins.length cap, .int .i64 A, .int .i64 B] 24)).alloc (.cells #[.int .i64 0, .int .i64 0, .slice none 0 0, .int .i64 0, .int .i64 0] 24)) (.cells #[] 3)
  have HS := Lib.hid (hs2.le (bt e3 BA)); have HT := Lib.hid ht; have HM := Lib.hid hm; have MO := Lib.hid M
  have E1 := Lib.hid (blk_le e1 BA); have E2 := Lib.hid (blk_le e2 BA); have E3 := Lib.hid (bt e3 BA)
  clear hs2 hS ht hm his e1 e2 e3 M BA
  go_enter Try.func11, Try.ntmps11
  go_upto_region 1 with fail
  generalize ((w.alloc (.cells #[.int .i64 tag, .int .i64 width, .slice a ins.length cap, .int .i64 A, .int .i64 B] 24)).alloc (.cells #[.int .i64 0, .int .i64 0, .slice none 0 0, .int .i64 0, .int .i64 0] 24)) = w2 at *
  obtain ⟨q1, -⟩ := blk E1.out
  have MO2 := Lib.hid (show Own EN (w2.alloc (.cells #[] 3)) w2.heap.size (.slice (some ⟨w2.heap.size, 0, none⟩) 0 0) [] from MO.out)
  have hz1 : w.heap.size < w2.heap.size := by omega
  go_upto_region 2 with (at_builtin; go_must (refine wpl_app eN MO2.out HS.out rfl rfl Try.underlying22 rfl rfl (by simp [maxLen]; omega) (by simp [encI]; omega) (by simp) ?_; intro v1 w1 hown1 hb1 hg1; rw [List.nil_append, HT.out] at hown1; obtain ⟨a1, c1, hv, -⟩ := hown1.sl.ex; subst hv; have F1 := Lib.hid ((hb1.block w.heap.size (by omega)).trans E1.out); have F2 := Lib.hid ((hb1.block (w.heap.size + 1) (by omega)).trans E2.out); obtain ⟨r1, r2⟩ := blk F1.out; obtain ⟨r3, r4⟩ := blk F2.out; have O1 := Lib.hid hown1; have B1 := Lib.hid hb1; clear hown1 hb1 hg1))
  have hw1 : w2.heap.size ≤ w1.heap.size := Nat.le_trans (by simp) B1.out.size
  have hown3 := own_set O1.out (show w.heap.size < w2.heap.size by omega) 2 (.slice a1 is.length c1)
  obtain ⟨w3, e0, x3, f1, f2, o3⟩ : ∃ w3, w3 = w1.setCell ⟨w.heap.size, 2, none⟩ (.slice a1 is.length c1) ∧ Below w.heap.size w w3 ∧
      w3.heap[w.heap.size]? = some (.cells #[.int .i64 tag, .int .i64 width, .slice a1 is.length c1, .int .i64 A, .int .i64 B] 24 (0, 0)) ∧
      w3.heap[w.heap.size + 1]? = some (.cells #[.int .i64 0, .int .i64 0, .slice none 0 0, .int .i64 0, .int .i64 0] 24 (0, 0)) ∧ Own EN w3 w2.heap.size (.slice a1 is.length c1) is :=
    ⟨_, rfl, (E3.out.trans (B1.out.mono (by omega))).setCell (p := ⟨w.heap.size, 2, none⟩) (Nat.le_refl _) _, blk_set F1.out _, by rw [Below.heap_setCell _ _ _ _ (by show w.heap.size + 1 ≠ w.heap.size; omega)]; exact F2.out, hown3⟩
  rw [← e0]
  obtain ⟨t1, -⟩ := blk f1
  obtain ⟨t3, t4⟩ := blk f2
  have X3 := Lib.hid x3; have G2 := Lib.hid f2; have O3 := Lib.hid o3
  clear e0 x3 f1 f2 o3 hown3 r1 r2 r3 r4 q1
  go_wp2_with fail
  have K := (blk (blk_set (i := 4) (blk_set (i := 3) (blk_set (i := 2) (blk_set (i := 1) (blk_set (i := 0) G2.out (.int .i64 tag)) (.int .i64 width)) (.slice a1 is.length c1)) (.int .i64 A)) (.int .i64 B))).1
  refine bodyPost_ret (v := .agg #[.int .i64 tag, .int .i64 width, .slice a1 is.length c1, .int .i64 A, .int .i64 B]) (by simp [results, Try.results11, go_sem, K]) rfl ⟨a1, c1, rfl, ?_, ?_⟩
  · exact (own_set (own_set (own_set (own_set (own_set O3.out hsz 0 _) hsz 1 _) hsz 2 _) hsz 3 _) hsz 4 _).mono (by omega)
  · exact ((((X3.out.setCell (by simp) _).setCell (by simp) _).setCell (by simp) _).setCell (by simp) _).setCell (by simp) _
end Go.Proofs.Ytipblkdekppbfaa
