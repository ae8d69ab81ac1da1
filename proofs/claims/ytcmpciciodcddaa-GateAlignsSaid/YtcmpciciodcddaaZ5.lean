/- The statement on what is told when, walked. -/
import Derived.Test.YtcmpciciodcddaaZ4
import Derived.Test.YtcmpciciodcddaaY0
namespace Go.Proofs.Ytcmpciciodcddaa
open Go.RowKit
open Nat renaming reduceEqDiff → nA, reduceLT → nB, reduceLeDiff → nC, reduceAdd → nD, reduceMul → nE, reduceSub → nF, reduceBEq → nG
open Int renaming reduceToNat → iA, reduceLT → iB, reduceLE → iC, reduceEq → iD
open Bool renaming and_eq_true → bA, or_eq_true → bB, or_eq_false_iff → bC, and_eq_false_iff → bD, not_eq_true' → bE, not_eq_false' → bF, not_true → bG, not_false → bH
set_option linter.all false
set_option maxHeartbeats 4000000
attribute [local irreducible] AW Does

structure Ac where
  kd : Int
  qu : Int
  e : El
def Ac.av (a : Ac) : List AV := [.c (.int .i64 a.kd), .c (.int .i64 a.qu), .c (.int .i64 a.e.kd), .c (.int .i64 a.e.s), .c (.int .i64 a.e.k), .c (.int .i64 a.e.v), .c (.int .u64 a.e.n)]
attribute [push_cast] Ac.av
set_option maxRecDepth 100000 in
theorem shp_act {n : Nat} {row : List AV} (h : Shp Try.prog (n + 4) 54 row) : ∃ a : Ac, row = Ac.av a ∧ (True) := by
  have h0 := shp_struct (P := Try.prog) (n := n + 3) [3, 3, 29] Try.underlying54 (by kernel_rfl) h
  obtain ⟨p0, r0, rfl, a0, h1⟩ := shpL_cons h0
  obtain ⟨p1, r1, rfl, a1, h2⟩ := shpL_cons h1
  obtain ⟨p2, r2, rfl, a2, h3⟩ := shpL_cons h2
  cases shpL_nil h3
  obtain ⟨x, rfl, gx⟩ := shp_int tU3 a0
  obtain ⟨y, rfl, gy⟩ := shp_int tU3 a1
  obtain ⟨e, rfl, ge⟩ := shp_el a2
  exact ⟨⟨x, y, e⟩, rfl, trivial⟩
set_option maxRecDepth 100000 in
theorem shp_acts {n : Nat} {row : List AV} (h : Shp Try.prog (n + 5) 51 row) : ∃ l : List Ac, row = [.l 7 (l.map Ac.av)] ∧ l.length ≤ maxLen ∧ ∀ a ∈ l, True := by
  obtain ⟨l, rfl, hl, hg⟩ := shp_slice (P := Try.prog) (n := n + 4) (f := Ac.av) (good := fun a : Ac => True) (sz := 7) tU51 (by kernel_rfl) (fun r hr => by obtain ⟨x, e, g⟩ := shp_act hr; exact ⟨x, e, by first | exact g | trivial⟩) h
  exact ⟨l, rfl, hl, hg⟩
/-- what came, of each queue in a row of its own -/
abbrev CR := AV × List El
def CR.own (p : CR) : AV × List (List AV) := (p.1, p.2.map El.av)
def CR.row (p : CR) : List AV := [p.1]
def tkR (t : Nat) : List AV := [.c (.int .i64 (t : Int))]
abbrev bG (g : Gt) : Blk := .r 25 3 1 [Gt.av g]
abbrev bC (n : Nat) (L : List CR) : Blk := .r 37 1 n (L.map CR.row)
abbrev bT (n : Nat) (T : List Nat) : Blk := .r 3 1 n (T.map tkR)
def Ba (H : Heap) (n5 nC nT n : Nat) (g : Gt) (L : List CR) (T : List Nat) : Heap := upd (upd (upd H n5 (bG g)) nC (bC n L)) nT (bT n T)
structure MI (H B : Heap) (n5 nC nT n : Nat) (g : Gt) (L : List CR) (T : List Nat) : Prop where
  o : OwnRs 29 5 B (L.map CR.own) (Ba H n5 nC nT n g L T)
  l : L.length = n
  t : T.length = n
structure Dst (H : Heap) (n5 nC nT : Nat) : Prop where
  a : ¬ nC = n5
  b : ¬ nT = nC
  c : ¬ nT = n5
  h5 : H n5 = none
  hC : H nC = none
  hT : H nT = none
section
variable {H B : Heap} {n5 nC nT n : Nat} {g : Gt} {L : List CR} {T : List Nat}
theorem Ba.g5 (d : Dst H n5 nC nT) : Ba H n5 nC nT n g L T n5 = some (bG g) := by
  unfold Ba; rw [upd_ne (fun h => d.c h.symm), upd_ne (fun h => d.a h.symm)]; exact upd_same _ _ _
theorem Ba.gC (d : Dst H n5 nC nT) : Ba H n5 nC nT n g L T nC = some (bC n L) := by
  unfold Ba; rw [upd_ne (fun h => d.b h.symm)]; exact upd_same _ _ _
theorem Ba.gT (d : Dst H n5 nC nT) : Ba H n5 nC nT n g L T nT = some (bT n T) := by
  unfold Ba; exact upd_same _ _ _
theorem Ba.turn5 (d : Dst H n5 nC nT) (g' : Gt) : upd (Ba H n5 nC nT n g L T) n5 (bG g') = Ba H n5 nC nT n g' L T := by
  funext q; unfold Ba; simp only [upd_get]
  by_cases e1 : q = n5
  · subst e1; simp [fun h => d.c (h : nT = q), show ¬ q = nT from fun h => d.c h.symm, show ¬ q = nC from fun h => d.a h.symm]
  · simp [e1]
theorem Ba.turnC (d : Dst H n5 nC nT) (L' : List CR) : upd (Ba H n5 nC nT n g L T) nC (bC n L') = Ba H n5 nC nT n g L' T := by
  funext q; unfold Ba; simp only [upd_get]
  by_cases e1 : q = nC
  · subst e1; simp [show ¬ q = nT from fun h => d.b h.symm]
  · simp [e1]
theorem Ba.turnT (d : Dst H n5 nC nT) (T' : List Nat) : upd (Ba H n5 nC nT n g L T) nT (bT n T') = Ba H n5 nC nT n g L T' := by
  funext q; unfold Ba; simp only [upd_get]
  by_cases e1 : q = nT <;> simp [e1]
theorem MI.g5 (h : MI H B n5 nC nT n g L T) (d : Dst H n5 nC nT) : B n5 = some (bG g) := h.o.get (Ba.g5 d)
theorem MI.gC (h : MI H B n5 nC nT n g L T) (d : Dst H n5 nC nT) : B nC = some (bC n L) := h.o.get (Ba.gC d)
theorem MI.gT (h : MI H B n5 nC nT n g L T) (d : Dst H n5 nC nT) : B nT = some (bT n T) := h.o.get (Ba.gT d)
theorem MI.turn (h : MI H B n5 nC nT n g L T) (d : Dst H n5 nC nT) (g' : Gt) {T' : List Nat} (hl : T'.length = T.length) : MI H (upd (upd B n5 (bG g')) nT (bT n T')) n5 nC nT n g' L T' := by
  refine ⟨?_, h.l, by rw [hl]; exact h.t⟩
  have h1 := (h.o.turn (bG g') (Ba.g5 d)).turn (m := nT) (b0 := bT n T) (bT n T') (by rw [Ba.turn5 d]; exact Ba.gT d)
  rwa [Ba.turn5 d, Ba.turnT d] at h1
theorem MI.at (h : MI H B n5 nC nT n g L T) {k : Nat} {x : AV} {c : List El} (hk : L[k]? = some (x, c)) : ∃ B1, OwnL B x 29 5 (c.map El.av) B1 ∧ OwnRs 29 5 B1 ((L.map CR.own).eraseIdx k) (Ba H n5 nC nT n g L T) :=
  h.o.pick (by rw [List.getElem?_map, hk]; rfl)
end
/-- the statement's own test, of what one owns -/
theorem aligned_a {H B G : Heap} {n5 nC nT n : Nat} {g : Gt} {L : List CR} {T : List Nat} (h : MI H B n5 nC nT n g L T) (d : Dst H n5 nC nT) (hle : Heap.le B G) (num : Int) (hn : n ≤ 4) (hc : ∀ p ∈ L, p.2.length ≤ 1000)
    (ht : ∀ (j : Nat) (p : CR) (t : Nat), L[j]? = some p → T[j]? = some t → t ≤ p.2.length) :
    ACall Try.prog 24 [.s nC 1 0 n n, .s nT 1 0 n n, .c (.int .u64 num)] G fun r G' => r = .c (.bool (alS (L.map Prod.snd) T num)) ∧ G' = G := by
  obtain ⟨Z, hZ⟩ : ∃ Z, Z = (L.map Prod.snd).zip T := ⟨_, rfl⟩
  have hZl : Z.length = n := by rw [hZ]; simp [h.l, h.t]
  have h1 : Z.map Prod.fst = L.map Prod.snd := by rw [hZ, List.map_fst_zip]; simp [h.l, h.t]
  have h2 : Z.map Prod.snd = T := by rw [hZ, List.map_snd_zip]; simp [h.l, h.t]
  have hp := aligned_p Z num (by omega) (fun p hp => by
    obtain ⟨j, hj⟩ := List.getElem?_of_mem hp
    rw [hZ, List.getElem?_zip_eq_some] at hj
    obtain ⟨j1, j2⟩ := hj
    rw [List.getElem?_map] at j1
    cases hq : L[j]? with
    | none => rw [hq] at j1; cases j1
    | some q =>
      rw [hq] at j1
      simp only [Option.map_some, Option.some.injEq] at j1
      rw [← j1]
      exact ⟨ht j q _ hq j2, hc q (List.mem_of_getElem? hq)⟩)
  have e1 : Z.map tRow = T.map tkR := by rw [← h2, List.map_map]; rfl
  have e2 : Z.map cRow = L.map (fun p : CR => [AV.l 5 (p.2.map El.av)]) := by
    have : Z.map cRow = (Z.map Prod.fst).map (fun c => [AV.l 5 (c.map El.av)]) := by rw [List.map_map]; rfl
    rw [this, h1, List.map_map]; rfl
  have e3 : Z.all (alP num) = alS (L.map Prod.snd) T num := by unfold alS; rw [← hZ]; rfl
  rw [e1, e2, e3] at hp
  refine ACall.lend (args' := [.l 1 (L.map (fun p : CR => [AV.l 5 (p.2.map El.av)])), .l 1 (T.map tkR), .c (.int .u64 num)]) (Flat.c _) ⟨?_, ?_, Lent.refl _ _, trivial⟩ hp.cl
  · have hlen : (L.map (fun p : CR => [AV.l 5 (p.2.map El.av)])).length = n := by simp [h.l]
    have := Lent.s2 (H := G) (n := nC) (cap := n) (rows' := L.map (fun p : CR => [AV.l 5 (p.2.map El.av)])) (hle _ _ (h.gC d)) (by simp) (fun e he => by obtain ⟨p, _, rfl⟩ := List.mem_map.1 he; rfl) (fun i j y hy => ?_) (k := n) (by simp [h.l])
    · rwa [List.take_of_length_le (by omega)] at this
    · obtain ⟨e, he, hj⟩ := at2_some.1 hy
      rw [List.getElem?_map] at he
      cases hq : L[i]? with
      | none => rw [hq] at he; cases he
      | some p =>
        rw [hq] at he
        simp only [Option.map_some, Option.some.injEq] at he
        subst he
        cases j with
        | succ j => simp at hj
        | zero =>
          simp only [List.getElem?_cons_zero, Option.some.injEq] at hj
          subst hj
          refine ⟨rfl, p.1, at2_some.2 ⟨CR.row p, by rw [List.getElem?_map, hq]; rfl, rfl⟩, ?_⟩
          exact (h.o.lent (CR.own p) (List.mem_map.2 ⟨p, List.mem_of_getElem? hq, rfl⟩)).mono hle
  · have hlen : (T.map tkR).length = n := by simp [h.t]
    have := Lent.s (cap := n) (hle _ _ (h.gT d))
    rwa [hlen] at this
end Go.Proofs.Ytcmpciciodcddaa
