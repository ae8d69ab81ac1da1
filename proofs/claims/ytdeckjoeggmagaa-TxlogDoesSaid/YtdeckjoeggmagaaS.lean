/- What arguments are. -/
import Derived.Test.YtdeckjoeggmagaaA
namespace Go.Proofs.Ytdeckjoeggmagaa
open Go.RowKit
open Nat renaming reduceEqDiff → nA, reduceLT → nB, reduceLeDiff → nC, reduceAdd → nD, reduceMul → nE, reduceSub → nF, reduceBEq → nG
open Int renaming reduceToNat → iA, reduceLT → iB, reduceLE → iC, reduceEq → iD
open Bool renaming and_eq_true → bA, or_eq_true → bB, or_eq_false_iff → bC, and_eq_false_iff → bD, not_eq_true' → bE, not_eq_false' → bF, not_true → bG, not_false → bH
set_option linter.all false
set_option maxHeartbeats 4000000
attribute [local irreducible] AW Does ACall tE tS tB tZ

def i64b (x : Int) : Prop := -9223372036854775808 ≤ x ∧ x ≤ 9223372036854775807
def Nm.good (x : Nm) : Prop := i64b x.s ∧ i64b x.a ∧ i64b x.n
set_option maxRecDepth 100000 in
theorem shp_nm {n : Nat} {row : List AV} (h : Shp Try.prog (n + 2) 26 row) : ∃ x : Nm, row = Nm.av x ∧ (x.good) := by
  have h0 := shp_struct (P := Try.prog) (n := n + 1) [3, 3, 3] Try.underlying26 (by kernel_rfl) h
  obtain ⟨p0, r0, rfl, a0, h1⟩ := shpL_cons h0
  obtain ⟨p1, r1, rfl, a1, h2⟩ := shpL_cons h1
  obtain ⟨p2, r2, rfl, a2, h3⟩ := shpL_cons h2
  cases shpL_nil h3
  obtain ⟨a, rfl, ga⟩ := shp_int tU3 a0
  obtain ⟨b, rfl, gb⟩ := shp_int tU3 a1
  obtain ⟨c, rfl, gc⟩ := shp_int tU3 a2
  exact ⟨⟨a, b, c⟩, rfl, ⟨bnd_i64 ga, bnd_i64 gb, bnd_i64 gc⟩⟩
set_option maxRecDepth 100000 in
theorem shp_nms {n : Nat} {row : List AV} (h : Shp Try.prog (n + 3) 22 row) : ∃ l : List Nm, row = [.l 3 (l.map Nm.av)] ∧ l.length ≤ maxLen ∧ ∀ x ∈ l, x.good := by
  obtain ⟨l, rfl, hl, hg⟩ := shp_slice (P := Try.prog) (n := n + 2) (f := Nm.av) (good := fun x : Nm => x.good) (sz := 3) tU22 (by kernel_rfl) (fun r hr => by obtain ⟨x, e, g⟩ := shp_nm hr; exact ⟨x, e, by first | exact g | trivial⟩) h
  exact ⟨l, rfl, hl, hg⟩
def Rec.good (x : Rec) : Prop := i64b x.s ∧ i64b x.k ∧ i64b x.v
set_option maxRecDepth 100000 in
theorem shp_rec {n : Nat} {row : List AV} (h : Shp Try.prog (n + 2) 36 row) : ∃ x : Rec, row = Rec.av x ∧ (x.good) := by
  have h0 := shp_struct (P := Try.prog) (n := n + 1) [3, 3, 2] Try.underlying36 (by kernel_rfl) h
  obtain ⟨p0, r0, rfl, a0, h1⟩ := shpL_cons h0
  obtain ⟨p1, r1, rfl, a1, h2⟩ := shpL_cons h1
  obtain ⟨p2, r2, rfl, a2, h3⟩ := shpL_cons h2
  cases shpL_nil h3
  obtain ⟨a, rfl, ga⟩ := shp_int tU3 a0
  obtain ⟨b, rfl, gb⟩ := shp_int tU3 a1
  obtain ⟨c, rfl, gc⟩ := shp_int tU2 a2
  exact ⟨⟨a, b, c⟩, rfl, ⟨bnd_i64 ga, bnd_i64 gb, bnd_i64 gc⟩⟩
set_option maxRecDepth 100000 in
theorem shp_recs {n : Nat} {row : List AV} (h : Shp Try.prog (n + 3) 45 row) : ∃ l : List Rec, row = [.l 3 (l.map Rec.av)] ∧ l.length ≤ maxLen ∧ ∀ x ∈ l, x.good := by
  obtain ⟨l, rfl, hl, hg⟩ := shp_slice (P := Try.prog) (n := n + 2) (f := Rec.av) (good := fun x : Rec => x.good) (sz := 3) tU45 (by kernel_rfl) (fun r hr => by obtain ⟨x, e, g⟩ := shp_rec hr; exact ⟨x, e, by first | exact g | trivial⟩) h
  exact ⟨l, rfl, hl, hg⟩
def Tx.good (t : Tx) : Prop := t.nm.good ∧ i64b t.st ∧ t.rs.length ≤ maxLen ∧ ∀ r ∈ t.rs, r.good
set_option maxRecDepth 100000 in
theorem shp_tx {n : Nat} {row : List AV} (h : Shp Try.prog (n + 4) 86 row) : ∃ t : Tx, row = Tx.av t ∧ (t.good) := by
  have h0 := shp_struct (P := Try.prog) (n := n + 3) [26, 3, 45] Try.underlying86 (by kernel_rfl) h
  obtain ⟨p0, r0, rfl, a0, h1⟩ := shpL_cons h0
  obtain ⟨p1, r1, rfl, a1, h2⟩ := shpL_cons h1
  obtain ⟨p2, r2, rfl, a2, h3⟩ := shpL_cons h2
  cases shpL_nil h3
  obtain ⟨a, rfl, ga⟩ := shp_nm a0
  obtain ⟨b, rfl, gb⟩ := shp_int tU3 a1
  obtain ⟨c, rfl, gc⟩ := shp_recs a2
  exact ⟨⟨a, b, c⟩, rfl, ⟨ga, bnd_i64 gb, gc⟩⟩
set_option maxRecDepth 100000 in
theorem shp_txs {n : Nat} {row : List AV} (h : Shp Try.prog (n + 5) 44 row) : ∃ l : List Tx, row = [.l 5 (l.map Tx.av)] ∧ l.length ≤ maxLen ∧ ∀ t ∈ l, t.good := by
  obtain ⟨l, rfl, hl, hg⟩ := shp_slice (P := Try.prog) (n := n + 4) (f := Tx.av) (good := fun t : Tx => t.good) (sz := 5) tU44 (by kernel_rfl) (fun r hr => by obtain ⟨x, e, g⟩ := shp_tx hr; exact ⟨x, e, by first | exact g | trivial⟩) h
  exact ⟨l, rfl, hl, hg⟩
def Lg.good (l : Lg) : Prop := (l.txs.length ≤ maxLen ∧ ∀ t ∈ l.txs, t.good) ∧ (l.done.length ≤ maxLen ∧ ∀ x ∈ l.done, x.good) ∧ (l.log.length ≤ maxLen ∧ ∀ r ∈ l.log, r.good)
set_option maxRecDepth 100000 in
theorem shp_lg {n : Nat} {row : List AV} (h : Shp Try.prog (n + 6) 47 row) : ∃ l : Lg, row = Lg.av l ∧ (l.good) := by
  have h0 := shp_struct (P := Try.prog) (n := n + 5) [44, 22, 45] Try.underlying47 (by kernel_rfl) h
  obtain ⟨p0, r0, rfl, a0, h1⟩ := shpL_cons h0
  obtain ⟨p1, r1, rfl, a1, h2⟩ := shpL_cons h1
  obtain ⟨p2, r2, rfl, a2, h3⟩ := shpL_cons h2
  cases shpL_nil h3
  obtain ⟨a, rfl, ga⟩ := shp_txs a0
  obtain ⟨b, rfl, gb⟩ := shp_nms a1
  obtain ⟨c, rfl, gc⟩ := shp_recs a2
  exact ⟨⟨a, b, c⟩, rfl, ⟨ga, gb, gc⟩⟩
structure Op16 where
  kind : Int
  nm : Nm
  names : List Nm
  recs : List Rec
def Op16.av (o : Op16) : List AV := [.c (.int .i64 o.kind), .c (.int .i64 o.nm.s), .c (.int .i64 o.nm.a), .c (.int .i64 o.nm.n), .l 3 (o.names.map Nm.av), .l 3 (o.recs.map Rec.av)]
attribute [push_cast] Op16.av
def Op16.good (o : Op16) : Prop := i64b o.kind ∧ o.nm.good ∧ (o.names.length ≤ maxLen ∧ ∀ x ∈ o.names, x.good) ∧ (o.recs.length ≤ maxLen ∧ ∀ r ∈ o.recs, r.good)
set_option maxRecDepth 100000 in
theorem shp_op {n : Nat} {row : List AV} (h : Shp Try.prog (n + 5) 51 row) : ∃ o : Op16, row = Op16.av o ∧ (o.good) := by
  have h0 := shp_struct (P := Try.prog) (n := n + 4) [3, 26, 22, 45] Try.underlying51 (by kernel_rfl) h
  obtain ⟨p0, r0, rfl, a0, h1⟩ := shpL_cons h0
  obtain ⟨p1, r1, rfl, a1, h2⟩ := shpL_cons h1
  obtain ⟨p2, r2, rfl, a2, h3⟩ := shpL_cons h2
  obtain ⟨p3, r3, rfl, a3, h4⟩ := shpL_cons h3
  cases shpL_nil h4
  obtain ⟨a, rfl, ga⟩ := shp_int tU3 a0
  obtain ⟨b, rfl, gb⟩ := shp_nm a1
  obtain ⟨c, rfl, gc⟩ := shp_nms a2
  obtain ⟨d, rfl, gd⟩ := shp_recs a3
  exact ⟨⟨a, b, c, d⟩, rfl, ⟨bnd_i64 ga, gb, gc, gd⟩⟩
set_option maxRecDepth 100000 in
theorem shp_ops {n : Nat} {row : List AV} (h : Shp Try.prog (n + 6) 48 row) : ∃ l : List Op16, row = [.l 6 (l.map Op16.av)] ∧ l.length ≤ maxLen ∧ ∀ o ∈ l, o.good := by
  obtain ⟨l, rfl, hl, hg⟩ := shp_slice (P := Try.prog) (n := n + 5) (f := Op16.av) (good := fun o : Op16 => o.good) (sz := 6) tU48 (by kernel_rfl) (fun r hr => by obtain ⟨x, e, g⟩ := shp_op hr; exact ⟨x, e, by first | exact g | trivial⟩) h
  exact ⟨l, rfl, hl, hg⟩
structure Sk where
  sub : Int
  att : Int
  ser : Int
  opn : Bool
  rdy : List Nm
  deriving DecidableEq
def Sk.av (s : Sk) : List AV := [.c (.int .i64 s.sub), .c (.int .i64 s.att), .c (.int .i64 s.ser), .c (.bool s.opn), .l 3 (s.rdy.map Nm.av)]
attribute [push_cast] Sk.av
def Sk.good (s : Sk) : Prop := i64b s.sub ∧ i64b s.att ∧ i64b s.ser ∧ (s.rdy.length ≤ maxLen ∧ ∀ x ∈ s.rdy, x.good)
end Go.Proofs.Ytdeckjoeggmagaa
