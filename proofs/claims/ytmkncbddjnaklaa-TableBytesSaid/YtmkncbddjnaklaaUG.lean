/- What arguments are. -/
import Derived.Test.YtmkncbddjnaklaaTJ0
namespace Go.Proofs.Ytmkncbddjnaklaa
open Go.RowKit
open Nat renaming reduceEqDiff → nA, reduceLT → nB, reduceLeDiff → nC, reduceAdd → nD, reduceMul → nE, reduceSub → nF, reduceBEq → nG
open Int renaming reduceToNat → iA, reduceLT → iB, reduceLE → iC, reduceEq → iD
open Bool renaming and_eq_true → bA, or_eq_true → bB, or_eq_false_iff → bC, and_eq_false_iff → bD, not_eq_true' → bE, not_eq_false' → bF, not_true → bG, not_false → bH
set_option linter.all false
set_option maxHeartbeats 4000000
attribute [local irreducible] AW Does ACall tE tS tB tZ

set_option maxRecDepth 100000 in
theorem shp_i {n : Nat} {row : List AV} (h : Shp Try.prog (n + 1) 3 row) : ∃ x : Int, row = i1 x ∧ True := by
  obtain ⟨x, rfl, _⟩ := shp_int tU3 h
  exact ⟨x, rfl, trivial⟩
set_option maxRecDepth 100000 in
theorem shp_is {n : Nat} {row : List AV} (h : Shp Try.prog (n + 2) 22 row) : ∃ l : List Int, row = [.l 1 (l.map i1)] ∧ l.length ≤ maxLen ∧ ∀ x ∈ l, True := by
  obtain ⟨l, rfl, hl, hg⟩ := shp_slice (P := Try.prog) (n := n + 1) (f := i1) (good := fun x : Int => True) (sz := 1) tU22 (by kernel_rfl) (fun r hr => by obtain ⟨x, e, g⟩ := shp_i hr; exact ⟨x, e, by first | exact g | trivial⟩) h
  exact ⟨l, rfl, hl, hg⟩
set_option maxRecDepth 100000 in
theorem shp_op {n : Nat} {row : List AV} (h : Shp Try.prog (n + 3) 24 row) : ∃ o : OpD, row = OpD.av o ∧ (o.ins.length ≤ maxLen ∧ o.A ≤ 9223372036854775807) := by
  have h0 := shp_struct (P := Try.prog) (n := n + 2) [3, 3, 22, 2, 2] Try.underlying24 (by kernel_rfl) h
  obtain ⟨p0, r0, rfl, a0, h1⟩ := shpL_cons h0
  obtain ⟨p1, r1, rfl, a1, h2⟩ := shpL_cons h1
  obtain ⟨p2, r2, rfl, a2, h3⟩ := shpL_cons h2
  obtain ⟨p3, r3, rfl, a3, h4⟩ := shpL_cons h3
  obtain ⟨p4, r4, rfl, a4, h5⟩ := shpL_cons h4
  cases shpL_nil h5
  obtain ⟨a, rfl, ga⟩ := shp_int tU3 a0
  obtain ⟨b, rfl, gb⟩ := shp_int tU3 a1
  obtain ⟨l, rfl, gl, kl⟩ := shp_is a2
  obtain ⟨c, rfl, gc⟩ := shp_int tU2 a3
  obtain ⟨d, rfl, gd⟩ := shp_int tU2 a4
  exact ⟨⟨a, b, l, c, d⟩, rfl, ⟨gl, (bnd_i64 gc).2⟩⟩
set_option maxRecDepth 100000 in
theorem shp_cell {n : Nat} {row : List AV} (h : Shp Try.prog (n + 2) 26 row) : ∃ c : CellD, row = CellD.av c ∧ (c.ok) := by
  have h0 := shp_struct (P := Try.prog) (n := n + 1) [2, 2] Try.underlying26 (by kernel_rfl) h
  obtain ⟨p0, r0, rfl, a0, h1⟩ := shpL_cons h0
  obtain ⟨p1, r1, rfl, a1, h2⟩ := shpL_cons h1
  cases shpL_nil h2
  obtain ⟨a, rfl, ga⟩ := shp_int tU2 a0
  obtain ⟨b, rfl, gb⟩ := shp_int tU2 a1
  exact ⟨⟨a, b⟩, rfl, ⟨bnd_i64 ga, bnd_i64 gb⟩⟩
set_option maxRecDepth 100000 in
theorem shp_rec {n : Nat} {row : List AV} (h : Shp Try.prog (n + 2) 54 row) : ∃ r : Rec, row = Rec.av r ∧ (i64b r.v) := by
  have h0 := shp_struct (P := Try.prog) (n := n + 1) [3, 3, 2] Try.underlying54 (by kernel_rfl) h
  obtain ⟨p0, r0, rfl, a0, h1⟩ := shpL_cons h0
  obtain ⟨p1, r1, rfl, a1, h2⟩ := shpL_cons h1
  obtain ⟨p2, r2, rfl, a2, h3⟩ := shpL_cons h2
  cases shpL_nil h3
  obtain ⟨a, rfl, ga⟩ := shp_int tU3 a0
  obtain ⟨b, rfl, gb⟩ := shp_int tU3 a1
  obtain ⟨c, rfl, gc⟩ := shp_int tU2 a2
  exact ⟨⟨a, b, c⟩, rfl, bnd_i64 gc⟩
set_option maxRecDepth 100000 in
theorem shp_recs {n : Nat} {row : List AV} (h : Shp Try.prog (n + 3) 50 row) : ∃ l : List Rec, row = [.l 3 (l.map Rec.av)] ∧ l.length ≤ maxLen ∧ ∀ r ∈ l, i64b r.v := by
  obtain ⟨l, rfl, hl, hg⟩ := shp_slice (P := Try.prog) (n := n + 2) (f := Rec.av) (good := fun r : Rec => i64b r.v) (sz := 3) tU50 (by kernel_rfl) (fun r hr => by obtain ⟨x, e, g⟩ := shp_rec hr; exact ⟨x, e, by first | exact g | trivial⟩) h
  exact ⟨l, rfl, hl, hg⟩
set_option maxRecDepth 100000 in
theorem shp_kc {n : Nat} {row : List AV} (h : Shp Try.prog (n + 3) 80 row) : ∃ x : KC, row = KC.av x ∧ ((cellK x).ok) := by
  have h0 := shp_struct (P := Try.prog) (n := n + 2) [3, 3, 26] Try.underlying80 (by kernel_rfl) h
  obtain ⟨p0, r0, rfl, a0, h1⟩ := shpL_cons h0
  obtain ⟨p1, r1, rfl, a1, h2⟩ := shpL_cons h1
  obtain ⟨p2, r2, rfl, a2, h3⟩ := shpL_cons h2
  cases shpL_nil h3
  obtain ⟨a, rfl, ga⟩ := shp_int tU3 a0
  obtain ⟨b, rfl, gb⟩ := shp_int tU3 a1
  obtain ⟨c, rfl, gc⟩ := shp_cell a2
  exact ⟨⟨a, b, c.count, c.sum⟩, rfl, gc⟩
set_option maxRecDepth 100000 in
theorem shp_kcs {n : Nat} {row : List AV} (h : Shp Try.prog (n + 4) 47 row) : ∃ l : List KC, row = [.l 4 (l.map KC.av)] ∧ l.length ≤ maxLen ∧ ∀ x ∈ l, (cellK x).ok := by
  obtain ⟨l, rfl, hl, hg⟩ := shp_slice (P := Try.prog) (n := n + 3) (f := KC.av) (good := fun x : KC => (cellK x).ok) (sz := 4) tU47 (by kernel_rfl) (fun r hr => by obtain ⟨x, e, g⟩ := shp_kc hr; exact ⟨x, e, by first | exact g | trivial⟩) h
  exact ⟨l, rfl, hl, hg⟩
set_option maxRecDepth 100000 in
theorem shp_tab {n : Nat} {row : List AV} (h : Shp Try.prog (n + 5) 49 row) : ∃ l : List KC, row = [.l 4 (l.map KC.av)] ∧ l.length ≤ maxLen ∧ ∀ x ∈ l, (cellK x).ok := by
  have h0 := shp_struct (P := Try.prog) (n := n + 4) [47] Try.underlying49 (by kernel_rfl) h
  obtain ⟨p0, r0, rfl, a0, h1⟩ := shpL_cons h0
  cases shpL_nil h1
  obtain ⟨l, rfl, g1, g2⟩ := shp_kcs a0
  exact ⟨l, rfl, g1, g2⟩
structure Pl where
  r : Rec
  c : CellD
def Pl.av (p : Pl) : List AV := [.c (.int .i64 p.r.s), .c (.int .i64 p.r.k), .c (.int .i64 p.r.v), .c (.int .i64 p.c.count), .c (.int .i64 p.c.sum)]
attribute [push_cast] Pl.av
def OkP (p : Pl) : Prop := i64b p.r.v ∧ p.c.ok
set_option maxRecDepth 100000 in
theorem shp_pl {n : Nat} {row : List AV} (h : Shp Try.prog (n + 3) 64 row) : ∃ p : Pl, row = Pl.av p ∧ (OkP p) := by
  have h0 := shp_struct (P := Try.prog) (n := n + 2) [54, 26] Try.underlying64 (by kernel_rfl) h
  obtain ⟨p0, r0, rfl, a0, h1⟩ := shpL_cons h0
  obtain ⟨p1, r1, rfl, a1, h2⟩ := shpL_cons h1
  cases shpL_nil h2
  obtain ⟨r, rfl, gr⟩ := shp_rec a0
  obtain ⟨c, rfl, gc⟩ := shp_cell a1
  exact ⟨⟨r, c⟩, rfl, ⟨gr, gc⟩⟩
set_option maxRecDepth 100000 in
theorem shp_pls {n : Nat} {row : List AV} (h : Shp Try.prog (n + 4) 62 row) : ∃ l : List Pl, row = [.l 5 (l.map Pl.av)] ∧ l.length ≤ maxLen ∧ ∀ p ∈ l, OkP p := by
  obtain ⟨l, rfl, hl, hg⟩ := shp_slice (P := Try.prog) (n := n + 3) (f := Pl.av) (good := fun p : Pl => OkP p) (sz := 5) tU62 (by kernel_rfl) (fun r hr => by obtain ⟨x, e, g⟩ := shp_pl hr; exact ⟨x, e, by first | exact g | trivial⟩) h
  exact ⟨l, rfl, hl, hg⟩
structure Sh where
  i : Int
  w : Int
def Sh.av (s : Sh) : List AV := [.c (.int .i64 s.i), .c (.int .i64 s.w)]
attribute [push_cast] Sh.av
set_option maxRecDepth 100000 in
theorem shp_sh {n : Nat} {row : List AV} (h : Shp Try.prog (n + 2) 70 row) : ∃ s : Sh, row = Sh.av s ∧ (True) := by
  have h0 := shp_struct (P := Try.prog) (n := n + 1) [3, 3] Try.underlying70 (by kernel_rfl) h
  obtain ⟨p0, r0, rfl, a0, h1⟩ := shpL_cons h0
  obtain ⟨p1, r1, rfl, a1, h2⟩ := shpL_cons h1
  cases shpL_nil h2
  obtain ⟨a, rfl, ga⟩ := shp_int tU3 a0
  obtain ⟨b, rfl, gb⟩ := shp_int tU3 a1
  exact ⟨⟨a, b⟩, rfl, trivial⟩
set_option maxRecDepth 100000 in
theorem shp_shs {n : Nat} {row : List AV} (h : Shp Try.prog (n + 3) 68 row) : ∃ l : List Sh, row = [.l 2 (l.map Sh.av)] ∧ l.length ≤ maxLen ∧ ∀ s ∈ l, True := by
  obtain ⟨l, rfl, hl, hg⟩ := shp_slice (P := Try.prog) (n := n + 2) (f := Sh.av) (good := fun s : Sh => True) (sz := 2) tU68 (by kernel_rfl) (fun r hr => by obtain ⟨x, e, g⟩ := shp_sh hr; exact ⟨x, e, by first | exact g | trivial⟩) h
  exact ⟨l, rfl, hl, hg⟩
def tabAV (l : List KC) : List AV := [.l 4 (l.map KC.av)]
set_option maxRecDepth 100000 in
theorem shp_tabs {n : Nat} {row : List AV} (h : Shp Try.prog (n + 6) 83 row) : ∃ L : List (List KC), row = [.l 1 (L.map tabAV)] ∧ L.length ≤ maxLen ∧ ∀ l ∈ L, l.length ≤ maxLen ∧ ∀ x ∈ l, (cellK x).ok := by
  obtain ⟨l, rfl, hl, hg⟩ := shp_slice (P := Try.prog) (n := n + 5) (f := tabAV) (good := fun l : List KC => l.length ≤ maxLen ∧ ∀ x ∈ l, (cellK x).ok) (sz := 1) tU83 (by kernel_rfl) (fun r hr => by obtain ⟨x, e, g⟩ := shp_tab hr; exact ⟨x, e, g⟩) h
  exact ⟨l, rfl, hl, hg⟩
set_option maxRecDepth 100000 in
theorem shp_by {n : Nat} {row : List AV} (h : Shp Try.prog (n + 1) 5 row) : ∃ x : Int, row = by1 x ∧ (0 ≤ x ∧ x < 256) := by
  obtain ⟨x, rfl, g⟩ := shp_int tU5 h
  exact ⟨x, rfl, by simp [Lit.wf, IntKind.min, IntKind.max, IntKind.bits, IntKind.signed] at g; omega⟩
set_option maxRecDepth 100000 in
theorem shp_bys {n : Nat} {row : List AV} (h : Shp Try.prog (n + 2) 88 row) : ∃ l : List Int, row = [.l 1 (l.map by1)] ∧ l.length ≤ maxLen ∧ octs l := by
  obtain ⟨l, rfl, hl, hg⟩ := shp_slice (P := Try.prog) (n := n + 1) (f := by1) (good := fun x : Int => 0 ≤ x ∧ x < 256) (sz := 1) tU88 (by kernel_rfl) (fun r hr => by obtain ⟨x, e, g⟩ := shp_by hr; exact ⟨x, e, g⟩) h
  exact ⟨l, rfl, hl, hg⟩
def bysAV (l : List Int) : List AV := [.l 1 (l.map by1)]
set_option maxRecDepth 100000 in
theorem shp_byss {n : Nat} {row : List AV} (h : Shp Try.prog (n + 3) 87 row) : ∃ L : List (List Int), row = [.l 1 (L.map bysAV)] ∧ L.length ≤ maxLen ∧ ∀ l ∈ L, l.length ≤ maxLen ∧ octs l := by
  obtain ⟨l, rfl, hl, hg⟩ := shp_slice (P := Try.prog) (n := n + 2) (f := bysAV) (good := fun l : List Int => l.length ≤ maxLen ∧ octs l) (sz := 1) tU87 (by kernel_rfl) (fun r hr => by obtain ⟨x, e, g⟩ := shp_bys hr; exact ⟨x, e, g⟩) h
  exact ⟨l, rfl, hl, hg⟩
end Go.Proofs.Ytmkncbddjnaklaa
