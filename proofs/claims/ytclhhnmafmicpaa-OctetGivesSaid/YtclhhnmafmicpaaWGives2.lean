/- Walk of the law OctetGives, whatever the lengths. Conditions: as each theorem states them. -/
import Derived.Test.YtclhhnmafmicpaaWGives
import Derived.Test.YtclhhnmafmicpaaO
namespace Go.Proofs.Ytclhhnmafmicpaa
open Go.ChangeShapes Go.WideShapes Go.ChangeAt Go.RowKit
set_option linter.unusedVariables false

set_option maxHeartbeats 1000000 in
set_option maxRecDepth 100000 in
theorem gives_walk (W : World) (b : List UInt8) (vb : Value) (hB : Sl EB W vb b) (l : List WantD) (vl : Value) (hL : Sl encW W vl l) (hok : ∀ x ∈ l, x.ok) :
    Calls Try.prog 6 #[vb, vl] W fun e w' => e = .returned (.bool true) ∧ Below W.heap.size W w' := by
  by_cases hlb : b.length ≤ 3000
  · by_cases hll : l.length ≤ 200
    · exact gives_main b l vb vl W hB hL hok hlb hll
    · obtain ⟨aa, ca, hv, _⟩ := hB.ex
      subst hv
      obtain ⟨ab, cb, hv, _⟩ := hL.ex
      subst hv
      clear hB hL hok
      go_enter Try.func6, Try.ntmps6
      go_wp2_with fail
      refine (wakes_any _).mono ?_
      rintro e w1 ⟨rfl, hb⟩
      have B1 := Lib.hid hb; clear hb
      go_wp2_with fail
      go_ret
      exact ⟨rfl, B1.out⟩
  · obtain ⟨aa, ca, hv, _⟩ := hB.ex
    subst hv
    obtain ⟨ab, cb, hv, _⟩ := hL.ex
    subst hv
    clear hB hL hok
    go_enter Try.func6, Try.ntmps6
    go_wp2_with fail
    refine (wakes_any _).mono ?_
    rintro e w1 ⟨rfl, hb⟩
    have B1 := Lib.hid hb; clear hb
    go_wp2_with fail
    go_ret
    exact ⟨rfl, B1.out⟩

theorem cells44 : Try.prog.cellsOf 44 = 2 := by kernel_rfl
theorem cells3 : Try.prog.cellsOf 3 = 1 := by kernel_rfl

theorem encW_reads : encW.Reads Try.prog WantD.ok := by
  intro H enc w base spare held fuel cs y h
  obtain ⟨y0, y1, n, _, hl, h0, h1⟩ := trod_struct2 (t := 44) Try.underlying44 h
  obtain ⟨a, e0, _, wa⟩ := DataW.trod_int Try.underlying3 h0
  obtain ⟨c, e1, _, wc⟩ := DataW.trod_int Try.underlying3 h1
  rw [cells44] at hl
  rw [cells3] at e0 e1
  match cs, hl with
  | [c0, c1], _ =>
    simp at e0 e1
    subst e0 e1
    exact ⟨⟨a, c⟩, rfl, bounds_i64 wa, bounds_i64 wc⟩
end Go.Proofs.Ytclhhnmafmicpaa
