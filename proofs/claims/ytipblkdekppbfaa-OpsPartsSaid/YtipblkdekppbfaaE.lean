/- Walks: ops.flow and its iterator. Conditions: as each theorem states them. -/
import Derived.Test.YtipblkdekppbfaaD
import Derived.Stop.RegionWithIn
namespace Go.Proofs.Ytipblkdekppbfaa
open Go.RowKit Go.Shelf
attribute [local go_sem] Oper.semAt_some
set_option linter.unusedVariables false

set_option maxHeartbeats 1000000 in
theorem flow_any (o : OpD) (pc pe : Nat) (vs : Value) (a : Option Addr) (n cap : Nat) (hv : vs = .slice a n cap) (w : World) :
    Calls Try.prog 38 #[o.val, .pointer (some ⟨pc, 0, none⟩), .pointer (some ⟨pe, 0, none⟩), vs] w fun e w' =>
      e = .returned (.func (.func 40) #[] #[.pointer (some ⟨w.heap.size, 0, none⟩), .pointer (some ⟨w.heap.size + 1 + 1 + 1, 0, none⟩), .pointer (some ⟨w.heap.size + 1, 0, none⟩), .pointer (some ⟨w.heap.size + 1 + 1, 0, none⟩)]) ∧
      w'.heap[w.heap.size]? = some (.cells #[.int .i64 o.tag, .int .i64 o.width, .slice o.a o.len o.cap, .int .i64 o.A, .int .i64 o.B] 24 (0, 0)) ∧
      w'.heap[w.heap.size + 1]? = some (.cells #[.pointer (some ⟨pc, 0, none⟩)] 64 (0, 0)) ∧ w'.heap[w.heap.size + 1 + 1]? = some (.cells #[.pointer (some ⟨pe, 0, none⟩)] 65 (0, 0)) ∧
      w'.heap[w.heap.size + 1 + 1 + 1]? = some (.cells #[vs] 29 (0, 0)) ∧ Below w.heap.size w w' := by
  subst hv
  obtain ⟨tag, width, oa, on, ocap, A, B⟩ := o
  go_enter Try.func38, Try.ntmps38
  go_wp2_with fail
  go_ret
  obtain ⟨e1, e2, e3, e4⟩ := alloc3 w (.cells #[.int .i64 tag, .int .i64 width, .slice oa on ocap, .int .i64 A, .int .i64 B] 24) (.cells #[.pointer (some ⟨pc, 0, none⟩)] 64) (.cells #[.pointer (some ⟨pe, 0, none⟩)] 65)
  have e5 := below_alloc (((w.alloc (.cells #[.int .i64 tag, .int .i64 width, .slice oa on ocap, .int .i64 A, .int .i64 B] 24)).alloc (.cells #[.pointer (some ⟨pc, 0, none⟩)] 64)).alloc (.cells #[.pointer (some ⟨pe, 0, none⟩)] 65)) (.cells #[.slice a n cap] 29)
  refine ⟨rfl, blk_le e1 e5, blk_le e2 e5, blk_le e3 e5, ?_, bt e4 e5⟩
  have := heap_alloc_new (((w.alloc (.cells #[.int .i64 tag, .int .i64 width, .slice oa on ocap, .int .i64 A, .int .i64 B] 24)).alloc (.cells #[.pointer (some ⟨pc, 0, none⟩)] 64)).alloc (.cells #[.pointer (some ⟨pe, 0, none⟩)] 65)) (.cells #[.slice a n cap] 29)
  simpa using this

/-- the step of an operator, as a function value, where the captured one lies in block pb -/
def stepF (tag : Int) (pb : Nat) : Nat × Array Value :=
  if tag = 2 then (44, #[]) else if tag = 3 then (45, #[]) else if tag = 4 then (46, #[.pointer (some ⟨pb, 0, none⟩)]) else if tag = 5 then (47, #[.pointer (some ⟨pb, 0, none⟩)]) else (42, #[])

theorem step_any (o : OpD) (c : CellD) (v : Int) (pb : Nat) (w : World) (hv : i64b v) (hA : i64b o.A) (hp : w.heap[pb]? = some (.cells #[.func (.func 43) #[] #[]] 72 (0, 0))) :
    Calls Try.prog (stepF o.tag pb).1 (#[o.val, c.val, .int .i64 v] ++ (stepF o.tag pb).2) w (StepPost o c v w) := by
  unfold stepF
  by_cases h2 : o.tag = 2
  · rw [if_pos h2]; exact step44_any o c v w h2
  · rw [if_neg h2]
    by_cases h3 : o.tag = 3
    · rw [if_pos h3]; exact step45_any o c v w h3 hv hA
    · rw [if_neg h3]
      by_cases h4 : o.tag = 4
      · rw [if_pos h4]; exact step46_any o c v pb w h4 hp
      · rw [if_neg h4]
        by_cases h5 : o.tag = 5
        · rw [if_pos h5]; exact step47_any o c v pb w h5 hp
        · rw [if_neg h5]; exact step42_any o c v w h2 h3 h4 h5

theorem step_enters (tag : Int) (pb : Nat) : Enters Try.prog (stepF tag pb).1 := by
  unfold stepF
  split
  · exact enters_of Try.func44 (by kernel_rfl) rfl
  · split
    · exact enters_of Try.func45 (by kernel_rfl) rfl
    · split
      · exact enters_of Try.func46 (by kernel_rfl) rfl
      · split
        · exact enters_of Try.func47 (by kernel_rfl) rfl
        · exact enters_of Try.func42 (by kernel_rfl) rfl

theorem step_index (tag : Int) (pb : Nat) (h1 : 1 ≤ tag) (h7 : tag ≤ 7) (W : World) :
    (Instr.index 69 (.agg #[.nilFunc, .func (.func 42) #[] #[], .func (.func 44) #[] #[], .func (.func 45) #[] #[], .func (.func 46) #[] #[.pointer (some ⟨pb, 0, none⟩)], .func (.func 47) #[] #[.pointer (some ⟨pb, 0, none⟩)], .func (.func 42) #[] #[], .func (.func 42) #[] #[]]) (.int .i64 tag)).run Try.prog W
      = .ok (.func (.func (stepF tag pb).1) #[] (stepF tag pb).2) W := by
  obtain rfl | rfl | rfl | rfl | rfl | rfl | rfl : tag = 1 ∨ tag = 2 ∨ tag = 3 ∨ tag = 4 ∨ tag = 5 ∨ tag = 6 ∨ tag = 7 := by omega
  all_goals rfl

theorem flow_take_full (o : OpD) (c : CellD) (vs : List Int) (k : Nat) (hk : k < vs.length) (h0 : (flowS o c (vs.take k)).2.2 = 0) (hm : (flowS o c (vs.take k)).1.count = 9223372036854775807) :
    flowS o c vs = ((flowS o c (vs.take k)).1, (flowS o c (vs.take k)).2.1, 6) := by
  have h1 := flowS_app o c (vs.take k) (vs.drop k) h0
  rw [List.take_append_drop, List.drop_eq_getElem_cons hk, flowS_full _ _ _ _ hm] at h1
  rw [h1]; simp

theorem flow_take_step (o : OpD) (c : CellD) (vs : List Int) (k : Nat) (hk : k < vs.length) (h0 : (flowS o c (vs.take k)).2.2 = 0) (hm : (flowS o c (vs.take k)).1.count ≠ 9223372036854775807) :
    flowS o c (vs.take (k + 1)) = ((stepS o (flowS o c (vs.take k)).1 vs[k]).1, (flowS o c (vs.take k)).2.1 ++ (if (stepS o (flowS o c (vs.take k)).1 vs[k]).2.2 then [(stepS o (flowS o c (vs.take k)).1 vs[k]).2.1] else []), 0) := by
  rw [take_snoc vs k hk, flowS_snoc]
  unfold fstep
  rw [if_neg (by simp [h0]), if_neg hm]
end Go.Proofs.Ytipblkdekppbfaa
