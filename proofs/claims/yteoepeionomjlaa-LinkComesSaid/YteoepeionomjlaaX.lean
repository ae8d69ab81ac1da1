/- What arguments are: elements, ends, packets. -/
import Derived.Test.YteoepeionomjlaaW0
namespace Go.Proofs.Yteoepeionomjlaa
open Go.RowKit
open Nat renaming reduceEqDiff → nA, reduceLT → nB, reduceLeDiff → nC, reduceAdd → nD, reduceMul → nE, reduceSub → nF, reduceBEq → nG
open Int renaming reduceToNat → iA, reduceLT → iB, reduceLE → iC, reduceEq → iD
open Bool renaming and_eq_true → bA, or_eq_true → bB, or_eq_false_iff → bC, and_eq_false_iff → bD, not_eq_true' → bE, not_eq_false' → bF, not_true → bG, not_false → bH
set_option linter.all false
set_option maxHeartbeats 4000000
attribute [local irreducible] AW Does

set_option maxRecDepth 100000 in
theorem shp_el {n : Nat} {row : List AV} (h : Shp Try.prog (n + 3) 33 row) : ∃ e : El, row = El.av e ∧ True := by
  have h1 := shp_struct (P := Try.prog) (n := n + 2) [3, 31, 23] Try.underlying33 (by kernel_rfl) h
  obtain ⟨p1, r1, rfl, a1, h2⟩ := shpL_cons h1
  obtain ⟨p2, r2, rfl, a2, h3⟩ := shpL_cons h2
  obtain ⟨p3, r3, rfl, a3, h4⟩ := shpL_cons h3
  cases shpL_nil h4
  obtain ⟨x1, rfl, _⟩ := shp_int tU3 a1
  obtain ⟨x3, rfl, _⟩ := shp_int tU23 a3
  have g1 := shp_struct (P := Try.prog) (n := n + 1) [3, 3, 2] Try.underlying31 (by kernel_rfl) a2
  obtain ⟨q1, t1, rfl, b1, g2⟩ := shpL_cons g1
  obtain ⟨q2, t2, rfl, b2, g3⟩ := shpL_cons g2
  obtain ⟨q3, t3, rfl, b3, g4⟩ := shpL_cons g3
  cases shpL_nil g4
  obtain ⟨y1, rfl, _⟩ := shp_int tU3 b1
  obtain ⟨y2, rfl, _⟩ := shp_int tU3 b2
  obtain ⟨y3, rfl, _⟩ := shp_int tU2 b3
  exact ⟨⟨x1, y1, y2, y3, x3⟩, rfl, trivial⟩
set_option maxRecDepth 100000 in
theorem shp_els {n : Nat} {row : List AV} (h : Shp Try.prog (n + 4) 24 row) : ∃ l : List El, row = [.l 5 (l.map El.av)] ∧ l.length ≤ maxLen := by
  obtain ⟨l, rfl, hl, _⟩ := shp_slice (P := Try.prog) (n := n + 3) (f := El.av) (good := fun _ => True) (sz := 5) tU24 (by kernel_rfl) (fun r hr => shp_el hr) h
  exact ⟨l, rfl, hl⟩
set_option maxRecDepth 100000 in
theorem shp_snd {n : Nat} {row : List AV} (h : Shp Try.prog (n + 5) 26 row) : ∃ s : Snd, row = Snd.av s ∧ s.q.length ≤ maxLen := by
  have h1 := shp_struct (P := Try.prog) (n := n + 4) [22, 23, 24, 23, 4] Try.underlying26 (by kernel_rfl) h
  obtain ⟨p1, r1, rfl, a1, h2⟩ := shpL_cons h1
  obtain ⟨p2, r2, rfl, a2, h3⟩ := shpL_cons h2
  obtain ⟨p3, r3, rfl, a3, h4⟩ := shpL_cons h3
  obtain ⟨p4, r4, rfl, a4, h5⟩ := shpL_cons h4
  obtain ⟨p5, r5, rfl, a5, h6⟩ := shpL_cons h5
  cases shpL_nil h6
  obtain ⟨x1, rfl, _⟩ := shp_int tU22 a1
  obtain ⟨x2, rfl, _⟩ := shp_int tU23 a2
  obtain ⟨l, rfl, hl⟩ := shp_els a3
  obtain ⟨x4, rfl, _⟩ := shp_int tU23 a4
  obtain ⟨x5, rfl⟩ := shp_bool tU4 a5
  exact ⟨⟨x1, x2, l, x4, x5⟩, rfl, hl⟩
set_option maxRecDepth 100000 in
theorem shp_rcv {n : Nat} {row : List AV} (h : Shp Try.prog (n + 5) 55 row) : ∃ s : Rcv, row = Rcv.av s ∧ s.b.length ≤ maxLen := by
  have h1 := shp_struct (P := Try.prog) (n := n + 4) [22, 23, 24, 3] Try.underlying55 (by kernel_rfl) h
  obtain ⟨p1, r1, rfl, a1, h2⟩ := shpL_cons h1
  obtain ⟨p2, r2, rfl, a2, h3⟩ := shpL_cons h2
  obtain ⟨p3, r3, rfl, a3, h4⟩ := shpL_cons h3
  obtain ⟨p4, r4, rfl, a4, h5⟩ := shpL_cons h4
  cases shpL_nil h5
  obtain ⟨x1, rfl, _⟩ := shp_int tU22 a1
  obtain ⟨x2, rfl, _⟩ := shp_int tU23 a2
  obtain ⟨l, rfl, hl⟩ := shp_els a3
  obtain ⟨x4, rfl, _⟩ := shp_int tU3 a4
  exact ⟨⟨x1, x2, l, x4⟩, rfl, hl⟩
set_option maxRecDepth 100000 in
theorem shp_rcvs {n : Nat} {row : List AV} (h : Shp Try.prog (n + 6) 84 row) : ∃ l : List Rcv, row = [.l 4 (l.map Rcv.av)] ∧ l.length ≤ maxLen ∧ ∀ x ∈ l, x.b.length ≤ maxLen := by
  obtain ⟨l, rfl, hl, hg⟩ := shp_slice (P := Try.prog) (n := n + 5) (f := Rcv.av) (good := fun x => x.b.length ≤ maxLen) (sz := 4) tU84 (by kernel_rfl) (fun r hr => shp_rcv hr) h
  exact ⟨l, rfl, hl, hg⟩
set_option maxRecDepth 100000 in
theorem shp_pk {n : Nat} {row : List AV} (h : Shp Try.prog (n + 4) 35 row) : ∃ p : Pk, row = Pk.av p ∧ True := by
  have h1 := shp_struct (P := Try.prog) (n := n + 3) [3, 22, 23, 23, 33] Try.underlying35 (by kernel_rfl) h
  obtain ⟨p1, r1, rfl, a1, h2⟩ := shpL_cons h1
  obtain ⟨p2, r2, rfl, a2, h3⟩ := shpL_cons h2
  obtain ⟨p3, r3, rfl, a3, h4⟩ := shpL_cons h3
  obtain ⟨p4, r4, rfl, a4, h5⟩ := shpL_cons h4
  obtain ⟨p5, r5, rfl, a5, h6⟩ := shpL_cons h5
  cases shpL_nil h6
  obtain ⟨x1, rfl, _⟩ := shp_int tU3 a1
  obtain ⟨x2, rfl, _⟩ := shp_int tU22 a2
  obtain ⟨x3, rfl, _⟩ := shp_int tU23 a3
  obtain ⟨x4, rfl, _⟩ := shp_int tU23 a4
  obtain ⟨e, rfl, _⟩ := shp_el a5
  exact ⟨⟨x1, x2, x3, x4, e⟩, rfl, trivial⟩
set_option maxRecDepth 100000 in
theorem shp_pks {n : Nat} {row : List AV} (h : Shp Try.prog (n + 5) 44 row) : ∃ l : List Pk, row = [.l 9 (l.map Pk.av)] ∧ l.length ≤ maxLen := by
  obtain ⟨l, rfl, hl, _⟩ := shp_slice (P := Try.prog) (n := n + 4) (f := Pk.av) (good := fun _ => True) (sz := 9) tU44 (by kernel_rfl) (fun r hr => shp_pk hr) h
  exact ⟨l, rfl, hl⟩
set_option maxRecDepth 100000 in
theorem shp_u32s {n : Nat} {row : List AV} (h : Shp Try.prog (n + 3) 69 row) : ∃ l : List Int, row = [.l 1 (l.map fun x => [AV.c (.int .u32 x)])] ∧ l.length ≤ maxLen := by
  obtain ⟨l, rfl, hl, _⟩ := shp_slice (P := Try.prog) (n := n + 2) (f := fun x => [AV.c (.int .u32 x)]) (good := fun _ => True) (sz := 1) tU69 (by kernel_rfl) (fun r hr => by obtain ⟨x, e, _⟩ := shp_int tU22 hr; exact ⟨x, e, trivial⟩) h
  exact ⟨l, rfl, hl⟩
set_option maxRecDepth 100000 in
theorem shp_ints {n : Nat} {row : List AV} (h : Shp Try.prog (n + 3) 70 row) : ∃ l : List Int, row = [.l 1 (l.map fun x => [AV.c (.int .i64 x)])] ∧ l.length ≤ maxLen := by
  obtain ⟨l, rfl, hl, _⟩ := shp_slice (P := Try.prog) (n := n + 2) (f := fun x => [AV.c (.int .i64 x)]) (good := fun _ => True) (sz := 1) tU70 (by kernel_rfl) (fun r hr => by obtain ⟨x, e, _⟩ := shp_int tU3 hr; exact ⟨x, e, trivial⟩) h
  exact ⟨l, rfl, hl⟩
end Go.Proofs.Yteoepeionomjlaa
