/- An argument of type Asked. Conditions: as each theorem states them. -/
import Derived.Test.YtipblkdekppbfaaB
import Derived.Test.YtipblkdekppbfaaQ
import Derived.Test.YtipblkdekppbfaaO2
import Derived.Deep.CutBlock
namespace Go.Proofs.Ytipblkdekppbfaa
open Go.ChangeShapes Go.WideShapes Go.ChangeAt Go.RowKit
set_option linter.unusedVariables false

theorem eN_reads : EN.Reads Try.prog i64b := encI_reads Try.underlying3
theorem cells3 : Try.prog.cellsOf 3 = 1 := by kernel_rfl
theorem cells22 : Try.prog.cellsOf 22 = 1 := by kernel_rfl
theorem cells24 : Try.prog.cellsOf 24 = 5 := by kernel_rfl
theorem cells26 : Try.prog.cellsOf 26 = 2 := by kernel_rfl
theorem cells28 : Try.prog.cellsOf 28 = 7 := by kernel_rfl

/-- cells that read as an operator -/
theorem read_op {H : Type} {enc : TypeId × Value → H} {W : World} {b0 : Nat} {held : Bool} {fuel : Nat} {cs : List Value} {y : DataW H × List MemPlace} (h : DataW.trod enc Try.prog W b0 (fun _ => true) held fuel 24 cs = some y) :
    ∃ (o : OpD) (ins : List Int), cs = [.int .i64 o.tag, .int .i64 o.width, .slice o.a o.len o.cap, .int .i64 o.A, .int .i64 o.B] ∧ o.ok ∧ Sl EN W o.sl ins ∧ ∀ x ∈ ins, i64b x := by
  obtain ⟨xs, n, -, -, hl, hxl, hf⟩ := DataW.trod_struct Try.underlying24 h
  rw [cells24] at hl
  match cs, hl with
  | [c0, c1, c2, c3, c4], _ =>
    match xs, hxl with
    | [y0, y1, y2, y3, y4], _ =>
      have h0 := hf 0 _ rfl
      have h1 := hf 1 _ rfl
      have h2 := hf 2 _ rfl
      have h3 := hf 3 _ rfl
      have h4 := hf 4 _ rfl
      simp [cells3, cells22, cells2] at h0 h1 h2 h3 h4
      obtain ⟨tag, e0, _, w0⟩ := DataW.trod_int Try.underlying3 h0
      obtain ⟨width, e1, _, w1⟩ := DataW.trod_int Try.underlying3 h1
      obtain ⟨ins, s2, g2⟩ := open_nested eN_reads cells3 Try.underlying22 h2
      obtain ⟨A, e3, _, w3⟩ := DataW.trod_int Try.underlying2 h3
      obtain ⟨B, e4, _, w4⟩ := DataW.trod_int Try.underlying2 h4
      simp at e0 e1 e3 e4
      subst e0 e1 e3 e4
      obtain ⟨a, cap, hv, -⟩ := s2.ex
      subst hv
      exact ⟨⟨tag, width, a, ins.length, cap, A, B⟩, ins, rfl, ⟨bounds_i64 w0, bounds_i64 w1, bounds_i64 w3, bounds_i64 w4⟩, s2, g2⟩

theorem read_cell {H : Type} {enc : TypeId × Value → H} {W : World} {b0 : Nat} {held : Bool} {fuel : Nat} {cs : List Value} {y : DataW H × List MemPlace} (h : DataW.trod enc Try.prog W b0 (fun _ => true) held fuel 26 cs = some y) :
    ∃ c : CellD, cs = [.int .i64 c.count, .int .i64 c.sum] ∧ c.ok := by
  obtain ⟨xs, n, -, -, hl, hxl, hf⟩ := DataW.trod_struct Try.underlying26 h
  rw [cells26] at hl
  match cs, hl with
  | [c0, c1], _ =>
    match xs, hxl with
    | [y0, y1], _ =>
      have h0 := hf 0 _ rfl
      have h1 := hf 1 _ rfl
      simp [cells2] at h0 h1
      obtain ⟨a, e0, _, w0⟩ := DataW.trod_int Try.underlying2 h0
      obtain ⟨b, e1, _, w1⟩ := DataW.trod_int Try.underlying2 h1
      simp at e0 e1
      subst e0 e1
      exact ⟨⟨a, b⟩, rfl, bounds_i64 w0, bounds_i64 w1⟩

/-- an operator and a cell, as cells -/
abbrev askedV (o : OpD) (c : CellD) : Value := .agg #[.int .i64 o.tag, .int .i64 o.width, .slice o.a o.len o.cap, .int .i64 o.A, .int .i64 o.B, .int .i64 c.count, .int .i64 c.sum]

theorem read_asked {H : Type} {enc : TypeId × Value → H} {W : World} {b0 : Nat} {held : Bool} {fuel : Nat} {cs : List Value} {y : DataW H × List MemPlace} (h : DataW.trod enc Try.prog W b0 (fun _ => true) held fuel 28 cs = some y) :
    ∃ (o : OpD) (c : CellD) (ins : List Int), cs = [.int .i64 o.tag, .int .i64 o.width, .slice o.a o.len o.cap, .int .i64 o.A, .int .i64 o.B, .int .i64 c.count, .int .i64 c.sum] ∧ o.ok ∧ c.ok ∧ Sl EN W o.sl ins ∧ ∀ x ∈ ins, i64b x := by
  obtain ⟨xs, n, -, -, hl, hxl, hf⟩ := DataW.trod_struct Try.underlying28 h
  rw [cells28] at hl
  match cs, hl with
  | [c0, c1, c2, c3, c4, c5, c6], _ =>
    match xs, hxl with
    | [y0, y1], _ =>
      have h0 := hf 0 _ rfl
      have h1 := hf 1 _ rfl
      simp [cells24, cells26] at h0 h1
      obtain ⟨o, ins, e0, ho, hs, hi⟩ := read_op h0
      obtain ⟨c, e1, hc⟩ := read_cell h1
      simp at e0 e1
      obtain ⟨rfl, rfl, rfl, rfl, rfl⟩ := e0
      obtain ⟨rfl, rfl⟩ := e1
      exact ⟨o, c, ins, rfl, ho, hc, hs, hi⟩

/-- An argument of type Asked. -/
theorem open_asked {H : Type} {enc : TypeId × Value → H} {W : World} {base b0 : Nat} {held : Bool} {v : Value} {d : DataW H} {p : List MemPlace}
    (hv : Value.okWide Try.prog W .any base 28 v) (h : DataW.Trod enc Try.prog W b0 (fun _ => true) held 28 v d p) :
    ∃ (o : OpD) (c : CellD) (ins : List Int), v = askedV o c ∧ o.ok ∧ c.ok ∧ Sl EN W o.sl ins ∧ ∀ x ∈ ins, i64b x := by
  obtain ⟨cs, rfl, hsz⟩ := okWide_struct Try.underlying28 hv
  obtain ⟨fuel, hf⟩ := h
  obtain ⟨o, c, ins, e, h1, h2, h3, h4⟩ := read_asked hf
  refine ⟨o, c, ins, ?_, h1, h2, h3, h4⟩
  have e' : cs.toList = [.int .i64 o.tag, .int .i64 o.width, .slice o.a o.len o.cap, .int .i64 o.A, .int .i64 o.B, .int .i64 c.count, .int .i64 c.sum] := e
  show Value.agg cs = _
  congr 1
  exact Array.ext' e'

end Go.Proofs.Ytipblkdekppbfaa
