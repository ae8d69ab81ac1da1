/- What arguments are. -/
import Derived.Test.YtlbdpnlmdcajbaaK
namespace Go.Proofs.Ytlbdpnlmdcajbaa
open Go.RowKit
open Nat renaming reduceEqDiff → nA, reduceLT → nB, reduceLeDiff → nC, reduceAdd → nD, reduceMul → nE, reduceSub → nF, reduceBEq → nG
open Int renaming reduceToNat → iA, reduceLT → iB, reduceLE → iC, reduceEq → iD
open Bool renaming and_eq_true → bA, or_eq_true → bB, or_eq_false_iff → bC, and_eq_false_iff → bD, not_eq_true' → bE, not_eq_false' → bF, not_true → bG, not_false → bH
set_option linter.all false
set_option maxHeartbeats 4000000
attribute [local irreducible] AW Does ACall tE tS tB tZ

theorem bnd_u64b {x : Int} (h : (Lit.int .u64 x).wf = true) : 0 ≤ x ∧ x ≤ 18446744073709551615 := by
  simp [Lit.wf, IntKind.min, IntKind.max, IntKind.bits, IntKind.signed] at h
  omega
def u64b (x : Int) : Prop := 0 ≤ x ∧ x ≤ 18446744073709551615
def i64b (x : Int) : Prop := -9223372036854775808 ≤ x ∧ x ≤ 9223372036854775807
def ru (x : Int) : List AV := [.c (.int .u64 x)]
attribute [push_cast] ru
def r2 (p : Int × Int) : List AV := [.c (.int .u64 p.1), .c (.int .u64 p.2)]
attribute [push_cast] r2
structure Bg where
  epoch : Int
  tasks : Int
  attempt : Int
def Bg.av (b : Bg) : List AV := [.c (.int .u64 b.epoch), .c (.int .i64 b.tasks), .c (.int .i64 b.attempt)]
attribute [push_cast] Bg.av
set_option maxRecDepth 100000 in
theorem shp_by {n : Nat} {row : List AV} (h : Shp Try.prog (n + 1) 5 row) : ∃ x : Int, row = by1 x ∧ (0 ≤ x ∧ x < 256) := by
  obtain ⟨x, rfl, g⟩ := shp_int tU5 h
  exact ⟨x, rfl, by simp [Lit.wf, IntKind.min, IntKind.max, IntKind.bits, IntKind.signed] at g; omega⟩
set_option maxRecDepth 100000 in
theorem shp_bys {n : Nat} {row : List AV} (h : Shp Try.prog (n + 2) 45 row) : ∃ l : List Int, row = [.l 1 (l.map by1)] ∧ (l.length ≤ maxLen ∧ octs l) := by
  obtain ⟨l, rfl, hl, hg⟩ := shp_slice (P := Try.prog) (n := n + 1) (f := by1) (good := fun x : Int => 0 ≤ x ∧ x < 256) (sz := 1) tU45 (by kernel_rfl) (fun r hr => by obtain ⟨x, e, g⟩ := shp_by hr; exact ⟨x, e, g⟩) h
  exact ⟨l, rfl, hl, hg⟩
def Ak.good (a : Ak) : Prop := i64b a.task ∧ (a.bytes.length ≤ maxLen ∧ octs a.bytes)
set_option maxRecDepth 100000 in
theorem shp_ak {n : Nat} {row : List AV} (h : Shp Try.prog (n + 4) 47 row) : ∃ a : Ak, row = Ak.av a ∧ (a.good) := by
  have h0 := shp_struct (P := Try.prog) (n := n + 3) [3, 45] Try.underlying47 (by kernel_rfl) h
  obtain ⟨p0, r0, rfl, a0, h1⟩ := shpL_cons h0
  obtain ⟨p1, r1, rfl, a1, h2⟩ := shpL_cons h1
  cases shpL_nil h2
  obtain ⟨x, rfl, gx⟩ := shp_int tU3 a0
  obtain ⟨y, rfl, gy⟩ := shp_bys a1
  exact ⟨⟨x, y⟩, rfl, ⟨bnd_i64 gx, gy⟩⟩
set_option maxRecDepth 100000 in
theorem shp_aks {n : Nat} {row : List AV} (h : Shp Try.prog (n + 5) 50 row) : ∃ l : List Ak, row = [.l 2 (l.map Ak.av)] ∧ l.length ≤ maxLen ∧ ∀ a ∈ l, a.good := by
  obtain ⟨l, rfl, hl, hg⟩ := shp_slice (P := Try.prog) (n := n + 4) (f := Ak.av) (good := fun a : Ak => a.good) (sz := 2) tU50 (by kernel_rfl) (fun r hr => by obtain ⟨x, e, g⟩ := shp_ak hr; exact ⟨x, e, by first | exact g | trivial⟩) h
  exact ⟨l, rfl, hl, hg⟩
def Pd.good (p : Pd) : Prop := u64b p.num ∧ i64b p.begun ∧ p.acks.length ≤ maxLen ∧ ∀ a ∈ p.acks, a.good
set_option maxRecDepth 100000 in
theorem shp_pd {n : Nat} {row : List AV} (h : Shp Try.prog (n + 6) 61 row) : ∃ p : Pd, row = Pd.av p ∧ (p.good) := by
  have h0 := shp_struct (P := Try.prog) (n := n + 5) [25, 2, 4, 50] Try.underlying61 (by kernel_rfl) h
  obtain ⟨p0, r0, rfl, a0, h1⟩ := shpL_cons h0
  obtain ⟨p1, r1, rfl, a1, h2⟩ := shpL_cons h1
  obtain ⟨p2, r2, rfl, a2, h3⟩ := shpL_cons h2
  obtain ⟨p3, r3, rfl, a3, h4⟩ := shpL_cons h3
  cases shpL_nil h4
  obtain ⟨a, rfl, ga⟩ := shp_int tU25 a0
  obtain ⟨b, rfl, gb⟩ := shp_int tU2 a1
  obtain ⟨c, rfl⟩ := shp_bool tU4 a2
  obtain ⟨d, rfl, gd⟩ := shp_aks a3
  exact ⟨⟨a, b, c, d⟩, rfl, ⟨bnd_u64b ga, bnd_i64 gb, gd⟩⟩
set_option maxRecDepth 100000 in
theorem shp_pds {n : Nat} {row : List AV} (h : Shp Try.prog (n + 7) 28 row) : ∃ l : List Pd, row = [.l 4 (l.map Pd.av)] ∧ l.length ≤ maxLen ∧ ∀ p ∈ l, p.good := by
  obtain ⟨l, rfl, hl, hg⟩ := shp_slice (P := Try.prog) (n := n + 6) (f := Pd.av) (good := fun p : Pd => p.good) (sz := 4) tU28 (by kernel_rfl) (fun r hr => by obtain ⟨x, e, g⟩ := shp_pd hr; exact ⟨x, e, by first | exact g | trivial⟩) h
  exact ⟨l, rfl, hl, hg⟩
def Cd.good (c : Cd) : Prop := (u64b c.epoch ∧ u64b c.counter ∧ i64b c.tasks ∧ i64b c.attempt ∧ i64b c.span) ∧ c.pend.length ≤ maxLen ∧ ∀ p ∈ c.pend, p.good
set_option maxRecDepth 100000 in
theorem shp_cd {n : Nat} {row : List AV} (h : Shp Try.prog (n + 8) 30 row) : ∃ c : Cd, row = Cd.av c ∧ (c.good) := by
  have h0 := shp_struct (P := Try.prog) (n := n + 7) [25, 25, 3, 3, 2, 28] Try.underlying30 (by kernel_rfl) h
  obtain ⟨p0, r0, rfl, a0, h1⟩ := shpL_cons h0
  obtain ⟨p1, r1, rfl, a1, h2⟩ := shpL_cons h1
  obtain ⟨p2, r2, rfl, a2, h3⟩ := shpL_cons h2
  obtain ⟨p3, r3, rfl, a3, h4⟩ := shpL_cons h3
  obtain ⟨p4, r4, rfl, a4, h5⟩ := shpL_cons h4
  obtain ⟨p5, r5, rfl, a5, h6⟩ := shpL_cons h5
  cases shpL_nil h6
  obtain ⟨a, rfl, ga⟩ := shp_int tU25 a0
  obtain ⟨b, rfl, gb⟩ := shp_int tU25 a1
  obtain ⟨c, rfl, gc⟩ := shp_int tU3 a2
  obtain ⟨d, rfl, gd⟩ := shp_int tU3 a3
  obtain ⟨e, rfl, ge⟩ := shp_int tU2 a4
  obtain ⟨f, rfl, gf⟩ := shp_pds a5
  exact ⟨⟨a, b, c, d, e, f⟩, rfl, ⟨⟨bnd_u64b ga, bnd_u64b gb, bnd_i64 gc, bnd_i64 gd, bnd_i64 ge⟩, gf⟩⟩
structure Op22 where
  kind : Int
  at_ : Int
  now : Int
  save : Bool
  tasks : Int
  attempt : Int
  ack : Ak
def Op22.av (o : Op22) : List AV := [.c (.int .i64 o.kind), .c (.int .i64 o.at_), .c (.int .i64 o.now), .c (.bool o.save), .c (.int .i64 o.tasks), .c (.int .i64 o.attempt), .c (.int .i64 o.ack.task), .l 1 (o.ack.bytes.map by1)]
attribute [push_cast] Op22.av
def Op22.good (o : Op22) : Prop := i64b o.kind ∧ i64b o.at_ ∧ i64b o.now ∧ i64b o.tasks ∧ i64b o.attempt ∧ o.ack.good
set_option maxRecDepth 100000 in
theorem shp_op {n : Nat} {row : List AV} (h : Shp Try.prog (n + 6) 49 row) : ∃ o : Op22, row = Op22.av o ∧ (o.good) := by
  have h0 := shp_struct (P := Try.prog) (n := n + 5) [3, 3, 2, 4, 3, 3, 47] Try.underlying49 (by kernel_rfl) h
  obtain ⟨p0, r0, rfl, a0, h1⟩ := shpL_cons h0
  obtain ⟨p1, r1, rfl, a1, h2⟩ := shpL_cons h1
  obtain ⟨p2, r2, rfl, a2, h3⟩ := shpL_cons h2
  obtain ⟨p3, r3, rfl, a3, h4⟩ := shpL_cons h3
  obtain ⟨p4, r4, rfl, a4, h5⟩ := shpL_cons h4
  obtain ⟨p5, r5, rfl, a5, h6⟩ := shpL_cons h5
  obtain ⟨p6, r6, rfl, a6, h7⟩ := shpL_cons h6
  cases shpL_nil h7
  obtain ⟨a, rfl, ga⟩ := shp_int tU3 a0
  obtain ⟨b, rfl, gb⟩ := shp_int tU3 a1
  obtain ⟨c, rfl, gc⟩ := shp_int tU2 a2
  obtain ⟨d, rfl⟩ := shp_bool tU4 a3
  obtain ⟨e, rfl, ge⟩ := shp_int tU3 a4
  obtain ⟨f, rfl, gf⟩ := shp_int tU3 a5
  obtain ⟨g, rfl, gg⟩ := shp_ak a6
  exact ⟨⟨a, b, c, d, e, f, g⟩, rfl, ⟨bnd_i64 ga, bnd_i64 gb, bnd_i64 gc, bnd_i64 ge, bnd_i64 gf, gg⟩⟩
set_option maxRecDepth 100000 in
theorem shp_ops {n : Nat} {row : List AV} (h : Shp Try.prog (n + 7) 43 row) : ∃ l : List Op22, row = [.l 8 (l.map Op22.av)] ∧ l.length ≤ maxLen ∧ ∀ o ∈ l, o.good := by
  obtain ⟨l, rfl, hl, hg⟩ := shp_slice (P := Try.prog) (n := n + 6) (f := Op22.av) (good := fun o : Op22 => o.good) (sz := 8) tU43 (by kernel_rfl) (fun r hr => by obtain ⟨x, e, g⟩ := shp_op hr; exact ⟨x, e, by first | exact g | trivial⟩) h
  exact ⟨l, rfl, hl, hg⟩
end Go.Proofs.Ytlbdpnlmdcajbaa
