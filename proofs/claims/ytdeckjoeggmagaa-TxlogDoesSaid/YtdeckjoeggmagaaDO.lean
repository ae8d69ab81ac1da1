/- Walk: a log of one's own is written over. -/
import Derived.Test.YtdeckjoeggmagaaDE
import Derived.Test.YtdeckjoeggmagaaJ
namespace Go.Proofs.Ytdeckjoeggmagaa
open Go.RowKit
open Nat renaming reduceEqDiff → nA, reduceLT → nB, reduceLeDiff → nC, reduceAdd → nD, reduceMul → nE, reduceSub → nF, reduceBEq → nG
open Int renaming reduceToNat → iA, reduceLT → iB, reduceLE → iC, reduceEq → iD
open Bool renaming and_eq_true → bA, or_eq_true → bB, or_eq_false_iff → bC, and_eq_false_iff → bD, not_eq_true' → bE, not_eq_false' → bF, not_true → bG, not_false → bH
set_option linter.all false
set_option maxHeartbeats 4000000
attribute [local irreducible] AW Does ACall tE tS tB tZ
set_option maxRecDepth 5000

def shapeL (l : Lg) : List Nat × Nat × Nat := (l.txs.map fun t => t.rs.length, l.done.length, l.log.length)
theorem shape_set {l : Lg} {i : Nat} {t t' : Tx} (ht : l.txs[i]? = some t) (h : t'.rs.length = t.rs.length) : shapeL { l with txs := l.txs.set i t' } = shapeL l := by
  unfold shapeL
  simp only [List.map_set, h]
  congr 1
  apply List.ext_getElem?
  intro j
  rw [List.getElem?_set]
  split
  · rename_i e; subst e
    rw [List.getElem?_map, ht]; simp [(List.getElem?_eq_some_iff.1 ht).1]
  · rfl
theorem spoil_a (l : Lg) (hl1 : l.txs.length ≤ 1000000) (hl2 : l.done.length ≤ 1000000) (hl3 : l.log.length ≤ 1000000) (hl4 : ∀ t ∈ l.txs, t.rs.length ≤ 1000000) (x1 x2 x3 : AV) (A G : Heap) (h : OwnG x1 x2 x3 l A G) :
    ACall Try.prog 30 [gl x1 x2 x3] A fun _ A' => Heap.le G A' := by
  obtain ⟨⟨u1, u2, u3⟩, w1, w2, w3⟩ := OwnG_cs h
  obtain ⟨z1, z2, z3⟩ := OwnG_len h
  obtain ⟨n1l, hn1l⟩ : ∃ q, q = l.txs.length := ⟨_, rfl⟩
  obtain ⟨n2l, hn2l⟩ : ∃ q, q = l.done.length := ⟨_, rfl⟩
  obtain ⟨n3l, hn3l⟩ : ∃ q, q = l.log.length := ⟨_, rfl⟩
  have hlen : ∀ l' : Lg, shapeL l' = shapeL l → l'.txs.length = n1l ∧ l'.done.length = n2l ∧ l'.log.length = n3l ∧ ∀ t ∈ l'.txs, t.rs.length ≤ 1000000 := fun l' e => by
    have e1 : (l'.txs.map fun t => t.rs.length) = l.txs.map fun t => t.rs.length := congrArg Prod.fst e
    have e2 : l'.done.length = l.done.length := congrArg (fun z => z.2.1) e
    have e3 : l'.log.length = l.log.length := congrArg (fun z => z.2.2) e
    refine ⟨by rw [hn1l]; have := congrArg List.length e1; simpa using this, by rw [hn2l, e2], by rw [hn3l, e3], fun t ht => ?_⟩
    have : t.rs.length ∈ l.txs.map fun t => t.rs.length := by rw [← e1]; exact List.mem_map_of_mem ht
    obtain ⟨t', ht', e⟩ := List.mem_map.1 this
    have := hl4 t' ht'
    omega
  rw [← hn1l] at hl1 z1
  rw [← hn2l] at hl2 z2
  rw [← hn3l] at hl3 z3
  replace hlen := Lib.hid hlen
  replace h := Lib.hid h
  clear hl4 hn1l hn2l hn3l
  refine ACall_of' Try.func30 rfl (Ent_of Try.func30 (by kernel_rfl) rfl) (by simp [Try.ntmps30]) ?_; simp only [Try.ntmps30, Try.results30]
  repeat' (first
    | refine AW_seq_kn fun K hK => ?_
    | refine AW_block ?_
    | ((first
      | refine AW_region E0 ?_ | refine AW_ret ?_ | refine AW_exit ?_ | refine AW_skip ?_ | unfold retQ); try simp only [push_cast, seval, *])
    | (apply AW_cond; (case hc => (simp only [push_cast, seval]; rfl)); all_goals (intro hc; first | (exfalso; simp only [push_cast, seval, *] at hc; done) | (exact absurd hc (by decide)) | ((try first | rw [Bool.not_true] at hc | rw [Bool.not_false] at hc); first | (with_reducible replace hc := tTT hc); clear hc | (with_reducible replace hc := tFF hc); clear hc | (have hp := hc; try simp only [decide_eq_true_eq, decide_eq_false_iff_not, bA, bB, bC, bD, bE, bF, bG, bH] at hp))))
    | (refine Kn.go hK ?_; clear hK K)
    | refine Kn.go (by assumption) ?_
    | (intro n hn; (try simp only [upd_none2, join_none_iff, ite_none, ne_eq] at hn); (try simp only [push_cast, seval, *]))
    | (intro hc)
    | fail)
  generalize n = n1 at *
  obtain ⟨Gl, hGl⟩ : ∃ Gl : Heap, Gl = upd G n1 (.r 47 3 1 [[x1, x2, x3]]) := ⟨_, rfl⟩
  have hG0 := (OwnG_loc _ _ _ _).new (unhid h) hn (.r 47 3 1 [[x1, x2, x3]])
  rw [← hGl] at hG0
  have gl1 : Gl n1 = some (.r 47 3 1 [[x1, x2, x3]]) := by rw [hGl, upd_same]
  have hleG : Heap.le G Gl := by rw [hGl]; exact le_upd_new ((OwnG_loc _ _ _ _).old (unhid h) hn)
  replace hG0 := Lib.hid hG0
  replace hleG := Lib.hid hleG
  clear hGl h hn
  refine AW_loopX (σ := Lg × Heap) n1l (fun _ s => OwnG x1 x2 x3 s.1 s.2 Gl ∧ shapeL s.1 = shapeL l) (fun i _ => [(1, .p n1 3 0 0), (8, ci n1l), (9, ci i)]) (fun _ s => s.2) (l, upd A n1 (.r 47 3 1 [[x1, x2, x3]])) ⟨unhid hG0, rfl⟩ ?_ ?_ ?_ ?_
  · (first | trivial | (simp only [push_cast, seval, *]; done))
  · exact Heap.le_refl _
  · rintro i ⟨l1, S⟩ hi ⟨hS, hsh⟩
    simp only at hS hsh ⊢
    have hil : (i : Int) < n1l := (by omega); have hiw : IntKind.i64.wrap ((i : Int) + 1) = (i : Int) + 1 := wrap_i64 (by omega) (by omega)
    obtain ⟨q1, -, -, q4⟩ := unhid hlen l1 hsh
    obtain ⟨t, ht⟩ : ∃ t, l1.txs[i]? = some t := ⟨_, List.getElem?_eq_getElem (by omega)⟩
    have hm := q4 t (List.mem_of_getElem? ht)
    obtain ⟨A1, ho1, A2, o3, o4⟩ := hS
    have hA1 := ((Loc.own _ _ _ _).comp (Loc.own _ _ _ _)).get ⟨A2, o3, o4⟩ gl1
    obtain ⟨np, cap, L, y, A0, e1, rfl, hnp, hLl, hLi, hRi, hch⟩ := OwnX_open ho1 ht
    obtain ⟨B0, p1, p2⟩ := Chain.pick RX_loc hch hLi
    have ycs := (OwnL.cs p1)
    have yone := OwnL.one p1
    have ylen := OwnL.len p1
    rw [List.length_map] at ylen
    have hA0 := (Loc.chain RX_loc L).get hch hA1
    have m1 : ¬ n1 = np := by rintro rfl; rw [hnp] at hA0; cases hA0
    have m1' : ¬ np = n1 := fun h => m1 h.symm
    rw [q1] at e1
    have hL2 : (L.set i (y, ({ t with st := 9 } : Tx))).map encX = (L.map encX).set i (encX (y, { t with st := 9 })) := by rw [List.map_set]
    have hl2 : n1l = ((L.set i (y, ({ t with st := 9 } : Tx))).map encX).length := by have := congrArg List.length hLl; simp at this ⊢; omega
    have hX2 : OwnG x1 x2 x3 { l1 with txs := l1.txs.set i { t with st := 9 } } (upd A0 np (.r 86 5 cap ((L.set i (y, ({ t with st := 9 } : Tx))).map encX))) Gl := by
      rw [e1]
      exact ⟨A1, ⟨L.set i (y, { t with st := 9 }), set_snd hLl, A0, OwnL.at hl2 hnp, Chain_set hch hLi rfl⟩, A2, o3, o4⟩
    have hsh2 : shapeL { l1 with txs := l1.txs.set i { t with st := 9 } } = shapeL l := (shape_set (t' := { t with st := 9 }) ht rfl).trans hsh
    have hti : (l1.txs.set i { t with st := 9 })[i]? = some { t with st := 9 } := by rw [List.getElem?_set]; simp; omega
    obtain ⟨m, hmm⟩ : ∃ m, m = t.rs.length := ⟨_, rfl⟩
    rw [← hmm] at hm ylen
    have hstp : ∀ l3 : Lg, shapeL l3 = shapeL l → ∀ t3, l3.txs[i]? = some t3 → t3.rs.length = m := fun l3 h3 t3 ht3 => by
      have e1 : (l3.txs.map fun t => t.rs.length) = l1.txs.map fun t => t.rs.length := congrArg Prod.fst (h3.trans hsh.symm)
      have := congrArg (fun z : List Nat => z[i]?) e1
      simp only [List.getElem?_map, ht3, ht, Option.map_some, Option.some.injEq] at this
      rw [this, hmm]
    rw [hL2] at hX2
    simp only [encX] at hRi hX2
    obtain ⟨⟨t1, t2, t3⟩, tst, trs⟩ := t
    simp only at hRi hX2 hsh2
    obtain ⟨R, hR⟩ : ∃ R, R = L.map encX := ⟨_, rfl⟩
    rw [← hR] at hRi hX2 ⊢
    have hRl : i < R.length := by have := (List.getElem?_eq_some_iff.1 hRi).1; exact this
    replace hX2 := Lib.hid hX2
    replace hsh2 := Lib.hid hsh2
    replace hstp := Lib.hid hstp
    clear hL2 hl2 hti hLl hLi hch hR o3 o4 hA1 p1 p2 q4 ht hmm hsh hnp ho1
    clear u1 u2 u3 w1 w2 w3 z1 z2 z3
    subst e1
    repeat' (first
    | refine AW_seq_kn fun K hK => ?_
    | refine AW_block ?_
    | ((first
      | refine AW_region E0 ?_ | refine AW_ret ?_ | refine AW_exit ?_ | refine AW_skip ?_ | unfold retQ); try simp only [push_cast, seval, *])
    | (apply AW_cond; (case hc => (simp only [push_cast, seval]; rfl)); all_goals (intro hc; first | (exfalso; simp only [push_cast, seval, *] at hc; done) | (exact absurd hc (by decide)) | ((try first | rw [Bool.not_true] at hc | rw [Bool.not_false] at hc); first | (with_reducible replace hc := tTT hc); clear hc | (with_reducible replace hc := tFF hc); clear hc | (have hp := hc; try simp only [decide_eq_true_eq, decide_eq_false_iff_not, bA, bB, bC, bD, bE, bF, bG, bH] at hp))))
    | (refine Kn.go hK ?_; clear hK K)
    | refine Kn.go (by assumption) ?_
    | (intro n hn; (try simp only [upd_none2, join_none_iff, ite_none, ne_eq] at hn); (try simp only [push_cast, seval, *]))
    | (intro hc)
    | fail)
    refine AW_loopX (σ := Lg × Heap) m (fun _ s => OwnG (.s np 5 0 n1l cap) x2 x3 s.1 s.2 Gl ∧ shapeL s.1 = shapeL l) (fun j _ => [(1, .p n1 3 0 0), (2, ci i), (8, ci n1l), (9, ci i), (23, ci m), (24, ci j)]) (fun _ s => s.2) (_, _) ⟨unhid hX2, unhid hsh2⟩ ?_ ?_ ?_ ?_
    · (first | trivial | (simp only [push_cast, seval, *]; done))
    · exact Heap.le_refl _
    · rintro j ⟨l3, S3⟩ hj ⟨hS3, hsh3⟩
      simp only at hS3 hsh3 ⊢
      have hjl : (j : Int) < m := (by omega); have hjw : IntKind.i64.wrap ((j : Int) + 1) = (j : Int) + 1 := wrap_i64 (by omega) (by omega)
      clear hX2 hsh2 hRi hRl ycs yone ylen hA0 q1
      obtain ⟨q1, -, -, q4⟩ := unhid hlen l3 hsh3
      obtain ⟨t, ht⟩ : ∃ t, l3.txs[i]? = some t := ⟨_, List.getElem?_eq_getElem (by omega)⟩
      have htm := unhid hstp l3 hsh3 t ht
      obtain ⟨B1, ho1, B2, o3, o4⟩ := hS3
      have hB1 := ((Loc.own _ _ _ _).comp (Loc.own _ _ _ _)).get ⟨B2, o3, o4⟩ gl1
      obtain ⟨np', cap', L', y', C0, e1, rfl, hnp, hLl, hLi, hRi, hch⟩ := OwnX_open ho1 ht
      rw [q1] at e1
      cases e1
      obtain ⟨D0, p1, p2⟩ := Chain.pick RX_loc hch hLi
      have hD1 := (Loc.chain RX_loc _).get p2 hB1
      unfold RX at p1
      rcases p1.split with ⟨ad, -, e, -⟩ | ⟨nr, capr, rfl, rfl, hnr⟩
      · rw [List.map_eq_nil_iff.1 e] at htm; simp only [List.length_nil] at htm; omega
      have hnpD : D0 np = none := by
        by_cases e : np = nr
        · subst e; exact hnr
        · rwa [upd_ne e] at hnp
      have m2 : ¬ n1 = nr := by rintro rfl; rw [hnr] at hD1; cases hD1
      have m3 : ¬ np = nr := by rintro rfl; rw [upd_same] at hnp; cases hnp
      have m3' : ¬ nr = np := fun h => m3 h.symm
      have m2' : ¬ nr = n1 := fun h => m2 h.symm
      obtain ⟨r, hr⟩ : ∃ r, t.rs[j]? = some r := ⟨_, List.getElem?_eq_getElem (by omega)⟩
      have hrr : (t.rs.map Rec.av)[j]? = some (Rec.av r) := by rw [List.getElem?_map, hr]; rfl
      obtain ⟨RR, hRR⟩ : ∃ RR, RR = t.rs.map Rec.av := ⟨_, rfl⟩
      have hset : RR.set j [.c (.int .i64 r.s), .c (.int .i64 r.k), .c (.int .i64 99)] = (t.rs.set j { r with v := 99 }).map Rec.av := by rw [hRR, List.map_set]; rfl
      have hRRl : RR.length = m := by rw [hRR, List.length_map, htm]
      rw [List.length_map, htm] at hRi
      rw [← hRR] at hrr ⊢
      have hfin : OwnG (.s np 5 0 n1l cap) x2 x3 { l3 with txs := l3.txs.set i { t with rs := t.rs.set j { r with v := 99 } } } (upd (upd D0 nr (.r 36 3 capr (RR.set j [.c (.int .i64 r.s), .c (.int .i64 r.k), .c (.int .i64 99)]))) np (.r 86 5 cap (L'.map encX))) Gl := by
        refine ⟨B1, ⟨L'.set i (.s nr 3 0 (t.rs.map Rec.av).length capr, { t with rs := t.rs.set j { r with v := 99 } }), set_snd hLl, upd D0 nr (.r 36 3 capr (RR.set j [.c (.int .i64 r.s), .c (.int .i64 r.k), .c (.int .i64 99)])), ?_, ?_⟩, B2, o3, o4⟩
        · have e2 : (L'.set i (.s nr 3 0 (t.rs.map Rec.av).length capr, ({ t with rs := t.rs.set j { r with v := 99 } } : Tx))).map encX = L'.map encX := by
            rw [List.map_set]
            apply List.ext_getElem?
            intro k
            rw [List.getElem?_set]
            split
            · rename_i e; subst e
              rw [List.getElem?_map, hLi]; simp [encX]; exact (List.getElem?_eq_some_iff.1 hLi).1
            · rfl
          rw [e2]
          have e3 : n1l = (L'.map encX).length := by have := congrArg List.length hLl; simp at this ⊢; omega
          exact OwnL.at e3 (by rw [upd_ne m3]; exact hnpD)
        · refine Chain.put RX_loc (L := L') (k := i) (y := .s nr 3 0 (t.rs.map Rec.av).length capr) (a := ({ t with rs := t.rs.set j { r with v := 99 } } : Tx)) ?_ p2 (List.getElem?_eq_some_iff.1 hLi).1
          unfold RX
          rw [hset]
          exact OwnL.at (by simp) hnr
      have hsh4 : shapeL { l3 with txs := l3.txs.set i { t with rs := t.rs.set j { r with v := 99 } } } = shapeL l := (shape_set (t' := { t with rs := t.rs.set j { r with v := 99 } }) ht (by simp)).trans hsh3
      obtain ⟨r1, r2, r3⟩ := r
      have hrv : Rec.av ⟨r1, r2, r3⟩ = [.c (.int .i64 r1), .c (.int .i64 r2), .c (.int .i64 r3)] := rfl
      simp only at hfin hsh4
      obtain ⟨⟨t1', t2', t3'⟩, tst', trs'⟩ := t
      simp only [encX] at hRi
      obtain ⟨R', hR'⟩ : ∃ R', R' = L'.map encX := ⟨_, rfl⟩
      rw [← hR'] at hRi hfin ⊢
      replace hfin := Lib.hid hfin
      replace hsh4 := Lib.hid hsh4
      clear hLl hLi hch hR' o3 o4 p2 hRR hset ho1 q4 ht hr hsh3 hnp hnr hB1 htm hstp hG0
      have hcomm : ∀ b, upd (upd (upd D0 nr (.r 36 3 capr RR)) np (.r 86 5 cap R')) nr b = upd (upd D0 nr b) np (.r 86 5 cap R') := fun b => by rw [upd_comm m3, upd_upd]
      obtain ⟨Sf, hSf⟩ : ∃ Sf, Sf = upd (upd D0 nr (.r 36 3 capr (RR.set j [.c (.int .i64 r1), .c (.int .i64 r2), .c (.int .i64 99)]))) np (.r 86 5 cap R') := ⟨_, rfl⟩
      have hfin2 := unhid hfin
      rw [← hSf] at hfin2
      replace hfin2 := Lib.hid hfin2
      replace hSf := Lib.hid hSf
      clear hfin
      replace hcomm := Lib.hid hcomm
      repeat' (first
    | refine AW_seq_kn fun K hK => ?_
    | refine AW_block ?_
    | ((first
      | refine AW_region E0 ?_ | refine AW_ret ?_ | refine AW_exit ?_ | refine AW_skip ?_ | unfold retQ); try simp only [push_cast, seval, *])
    | (apply AW_cond; (case hc => (simp only [push_cast, seval]; rfl)); all_goals (intro hc; first | (exfalso; simp only [push_cast, seval, *] at hc; done) | (exact absurd hc (by decide)) | ((try first | rw [Bool.not_true] at hc | rw [Bool.not_false] at hc); first | (with_reducible replace hc := tTT hc); clear hc | (with_reducible replace hc := tFF hc); clear hc | (have hp := hc; try simp only [decide_eq_true_eq, decide_eq_false_iff_not, bA, bB, bC, bD, bE, bF, bG, bH] at hp))))
    | (refine Kn.go hK ?_; clear hK K)
    | refine Kn.go (by assumption) ?_
    | (intro n hn; (try simp only [upd_none2, join_none_iff, ite_none, ne_eq] at hn); (try simp only [push_cast, seval, *]))
    | (intro hc)
    | fail)
      exact ⟨(_, Sf), ⟨unhid hfin2, unhid hsh4⟩, by (first | trivial | (simp only [push_cast, seval, *]; done)), by
        show Heap.le Sf _
        rw [unhid hSf]
        first
          | (rw [unhid hcomm]; exact Heap.le_refl _)
          | (rw [upd_upd, unhid hcomm]; exact Heap.le_refl _)⟩
    · rintro ⟨l3, S3⟩ ⟨hS3, hsh3⟩
      simp only at hS3 hsh3 ⊢
      replace hS3 := Lib.hid hS3
      replace hsh3 := Lib.hid hsh3
      clear hX2 hsh2 hG0
      repeat' (first
    | refine AW_seq_kn fun K hK => ?_
    | refine AW_block ?_
    | ((first
      | refine AW_region E0 ?_ | refine AW_ret ?_ | refine AW_exit ?_ | refine AW_skip ?_ | unfold retQ); try simp only [push_cast, seval, *])
    | (apply AW_cond; (case hc => (simp only [push_cast, seval]; rfl)); all_goals (intro hc; first | (exfalso; simp only [push_cast, seval, *] at hc; done) | (exact absurd hc (by decide)) | ((try first | rw [Bool.not_true] at hc | rw [Bool.not_false] at hc); first | (with_reducible replace hc := tTT hc); clear hc | (with_reducible replace hc := tFF hc); clear hc | (have hp := hc; try simp only [decide_eq_true_eq, decide_eq_false_iff_not, bA, bB, bC, bD, bE, bF, bG, bH] at hp))))
    | (refine Kn.go hK ?_; clear hK K)
    | refine Kn.go (by assumption) ?_
    | (intro n hn; (try simp only [upd_none2, join_none_iff, ite_none, ne_eq] at hn); (try simp only [push_cast, seval, *]))
    | (intro hc)
    | fail)
      exact ⟨(l3, S3), ⟨unhid hS3, unhid hsh3⟩, by (first | trivial | (simp only [push_cast, seval, *]; done)), Heap.le_refl _⟩
  · rintro ⟨l1, S⟩ ⟨hS, hsh⟩
    simp only at hS hsh ⊢
    have g1 := (OwnG_loc _ _ _ _).get hS gl1
    replace hS := Lib.hid hS
    replace hsh := Lib.hid hsh
    clear hG0
    repeat' (first
    | refine AW_seq_kn fun K hK => ?_
    | refine AW_block ?_
    | ((first
      | refine AW_region E0 ?_ | refine AW_ret ?_ | refine AW_exit ?_ | refine AW_skip ?_ | unfold retQ); try simp only [push_cast, seval, *])
    | (apply AW_cond; (case hc => (simp only [push_cast, seval]; rfl)); all_goals (intro hc; first | (exfalso; simp only [push_cast, seval, *] at hc; done) | (exact absurd hc (by decide)) | ((try first | rw [Bool.not_true] at hc | rw [Bool.not_false] at hc); first | (with_reducible replace hc := tTT hc); clear hc | (with_reducible replace hc := tFF hc); clear hc | (have hp := hc; try simp only [decide_eq_true_eq, decide_eq_false_iff_not, bA, bB, bC, bD, bE, bF, bG, bH] at hp))))
    | (refine Kn.go hK ?_; clear hK K)
    | refine Kn.go (by assumption) ?_
    | (intro n hn; (try simp only [upd_none2, join_none_iff, ite_none, ne_eq] at hn); (try simp only [push_cast, seval, *]))
    | (intro hc)
    | fail)
    refine AW_loopX (σ := Lg × Heap) n2l (fun _ s => OwnG x1 x2 x3 s.1 s.2 Gl ∧ shapeL s.1 = shapeL l) (fun i _ => [(1, .p n1 3 0 0), (40, ci n2l), (41, ci i)]) (fun _ s => s.2) (l1, S) ⟨unhid hS, unhid hsh⟩ ?_ ?_ ?_ ?_
    · (first | trivial | (simp only [push_cast, seval, *]; done))
    · exact Heap.le_refl _
    · clear hS hsh g1
      clear l1 S
      rintro i ⟨l1, S⟩ hi ⟨hS, hsh⟩
      simp only at hS hsh ⊢
      have hil : (i : Int) < n2l := (by omega); have hiw : IntKind.i64.wrap ((i : Int) + 1) = (i : Int) + 1 := wrap_i64 (by omega) (by omega)
      obtain ⟨-, q2, -, -⟩ := unhid hlen l1 hsh
      obtain ⟨v, hv⟩ : ∃ v, l1.done[i]? = some v := ⟨_, List.getElem?_eq_getElem (by omega)⟩
      have g1 := (OwnG_loc _ _ _ _).get hS gl1
      obtain ⟨A1, ho1, A2, o3, o4⟩ := hS
      rcases o3.split with ⟨ad, -, e, -⟩ | ⟨nd, cap, e1, rfl, hnd⟩
      · rw [List.map_eq_nil_iff.1 e] at hv; simp at hv
      rw [List.length_map, q2] at e1
      subst e1
      have gd := (OwnX_loc _ _).get ho1 (upd_same A2 nd _)
      have hA2 := (Loc.own _ _ _ _).get o4 gl1
      have m1 : ¬ n1 = nd := by rintro rfl; rw [hnd] at hA2; cases hA2
      have m1' : ¬ nd = n1 := fun h => m1 h.symm
      have hrow : (l1.done.map Nm.av)[i]? = some (Nm.av v) := by rw [List.getElem?_map, hv]; rfl
      obtain ⟨R, hR⟩ : ∃ R, R = l1.done.map Nm.av := ⟨_, rfl⟩
      have hRl : R.length = n2l := by rw [hR, List.length_map, q2]
      have hset : R.set i [.c (.int .i64 v.s), .c (.int .i64 v.a), .c (.int .i64 99)] = (l1.done.set i { v with n := 99 }).map Nm.av := by rw [hR, List.map_set]; rfl
      have hfin : OwnG x1 (.s nd 3 0 n2l cap) x3 { l1 with done := l1.done.set i { v with n := 99 } } (upd S nd (.r 26 3 cap (R.set i [.c (.int .i64 v.s), .c (.int .i64 v.a), .c (.int .i64 99)]))) Gl := by
        have t1 := (OwnX_loc _ _).turn ho1 (upd_same A2 nd _) (.r 26 3 cap (R.set i [.c (.int .i64 v.s), .c (.int .i64 v.a), .c (.int .i64 99)]))
        rw [upd_upd] at t1
        refine ⟨_, t1, A2, ?_, o4⟩
        rw [hset]
        exact OwnL.at (by simp; omega) hnd
      have hsh2 : shapeL { l1 with done := l1.done.set i { v with n := 99 } } = shapeL l := by rw [← hsh]; unfold shapeL; simp
      rw [← hR] at hrow gd
      obtain ⟨v1, v2, v3⟩ := v
      have hvv : Nm.av ⟨v1, v2, v3⟩ = [.c (.int .i64 v1), .c (.int .i64 v2), .c (.int .i64 v3)] := rfl
      simp only at hfin hsh2
      replace hfin := Lib.hid hfin
      replace hsh2 := Lib.hid hsh2
      clear hR hset o3 o4 ho1 hv hsh hnd hA2
      repeat' (first
    | refine AW_seq_kn fun K hK => ?_
    | refine AW_block ?_
    | ((first
      | refine AW_region E0 ?_ | refine AW_ret ?_ | refine AW_exit ?_ | refine AW_skip ?_ | unfold retQ); try simp only [push_cast, seval, *])
    | (apply AW_cond; (case hc => (simp only [push_cast, seval]; rfl)); all_goals (intro hc; first | (exfalso; simp only [push_cast, seval, *] at hc; done) | (exact absurd hc (by decide)) | ((try first | rw [Bool.not_true] at hc | rw [Bool.not_false] at hc); first | (with_reducible replace hc := tTT hc); clear hc | (with_reducible replace hc := tFF hc); clear hc | (have hp := hc; try simp only [decide_eq_true_eq, decide_eq_false_iff_not, bA, bB, bC, bD, bE, bF, bG, bH] at hp))))
    | (refine Kn.go hK ?_; clear hK K)
    | refine Kn.go (by assumption) ?_
    | (intro n hn; (try simp only [upd_none2, join_none_iff, ite_none, ne_eq] at hn); (try simp only [push_cast, seval, *]))
    | (intro hc)
    | fail)
      exact ⟨(_, _), ⟨unhid hfin, unhid hsh2⟩, by (first | trivial | (simp only [push_cast, seval, *]; done)), Heap.le_refl _⟩
    · clear hS hsh g1
      clear l1 S
      rintro ⟨l1, S⟩ ⟨hS, hsh⟩
      simp only at hS hsh ⊢
      have g1 := (OwnG_loc _ _ _ _).get hS gl1
      replace hS := Lib.hid hS
      replace hsh := Lib.hid hsh
      repeat' (first
    | refine AW_seq_kn fun K hK => ?_
    | refine AW_block ?_
    | ((first
      | refine AW_region E0 ?_ | refine AW_ret ?_ | refine AW_exit ?_ | refine AW_skip ?_ | unfold retQ); try simp only [push_cast, seval, *])
    | (apply AW_cond; (case hc => (simp only [push_cast, seval]; rfl)); all_goals (intro hc; first | (exfalso; simp only [push_cast, seval, *] at hc; done) | (exact absurd hc (by decide)) | ((try first | rw [Bool.not_true] at hc | rw [Bool.not_false] at hc); first | (with_reducible replace hc := tTT hc); clear hc | (with_reducible replace hc := tFF hc); clear hc | (have hp := hc; try simp only [decide_eq_true_eq, decide_eq_false_iff_not, bA, bB, bC, bD, bE, bF, bG, bH] at hp))))
    | (refine Kn.go hK ?_; clear hK K)
    | refine Kn.go (by assumption) ?_
    | (intro n hn; (try simp only [upd_none2, join_none_iff, ite_none, ne_eq] at hn); (try simp only [push_cast, seval, *]))
    | (intro hc)
    | fail)
      refine AW_loopX (σ := Lg × Heap) n3l (fun _ s => OwnG x1 x2 x3 s.1 s.2 Gl ∧ shapeL s.1 = shapeL l) (fun i _ => [(1, .p n1 3 0 0), (52, ci n3l), (53, ci i)]) (fun _ s => s.2) (l1, S) ⟨unhid hS, unhid hsh⟩ ?_ ?_ ?_ ?_
      · (first | trivial | (simp only [push_cast, seval, *]; done))
      · exact Heap.le_refl _
      · clear hS hsh g1
        clear l1 S
        rintro i ⟨l1, S⟩ hi ⟨hS, hsh⟩
        simp only at hS hsh ⊢
        have hil : (i : Int) < n3l := (by omega); have hiw : IntKind.i64.wrap ((i : Int) + 1) = (i : Int) + 1 := wrap_i64 (by omega) (by omega)
        obtain ⟨-, -, q3, -⟩ := unhid hlen l1 hsh
        obtain ⟨v, hv⟩ : ∃ v, l1.log[i]? = some v := ⟨_, List.getElem?_eq_getElem (by omega)⟩
        have g1 := (OwnG_loc _ _ _ _).get hS gl1
        obtain ⟨A1, ho1, A2, o3, o4⟩ := hS
        rcases o4.split with ⟨ad, -, e, -⟩ | ⟨nd, cap, e1, rfl, hnd⟩
        · rw [List.map_eq_nil_iff.1 e] at hv; simp at hv
        rw [List.length_map, q3] at e1
        subst e1
        have ga := (Loc.own _ _ _ _).get o3 (upd_same Gl nd _)
        have gd := (OwnX_loc _ _).get ho1 ga
        have m1 : ¬ n1 = nd := by rintro rfl; rw [hnd] at gl1; cases gl1
        have m1' : ¬ nd = n1 := fun h => m1 h.symm
        have hrow : (l1.log.map Rec.av)[i]? = some (Rec.av v) := by rw [List.getElem?_map, hv]; rfl
        obtain ⟨R, hR⟩ : ∃ R, R = l1.log.map Rec.av := ⟨_, rfl⟩
        have hRl : R.length = n3l := by rw [hR, List.length_map, q3]
        have hset : R.set i [.c (.int .i64 v.s), .c (.int .i64 v.k), .c (.int .i64 99)] = (l1.log.set i { v with v := 99 }).map Rec.av := by rw [hR, List.map_set]; rfl
        have hfin : OwnG x1 x2 (.s nd 3 0 n3l cap) { l1 with log := l1.log.set i { v with v := 99 } } (upd S nd (.r 36 3 cap (R.set i [.c (.int .i64 v.s), .c (.int .i64 v.k), .c (.int .i64 99)]))) Gl := by
          have t1 := (OwnX_loc _ _).turn ho1 ga (.r 36 3 cap (R.set i [.c (.int .i64 v.s), .c (.int .i64 v.k), .c (.int .i64 99)]))
          have t2 := (Loc.own _ _ _ _).turn o3 (upd_same Gl nd _) (.r 36 3 cap (R.set i [.c (.int .i64 v.s), .c (.int .i64 v.k), .c (.int .i64 99)]))
          rw [upd_upd] at t2
          refine ⟨_, t1, _, t2, ?_⟩
          rw [hset]
          exact OwnL.at (by simp; omega) hnd
        have hsh2 : shapeL { l1 with log := l1.log.set i { v with v := 99 } } = shapeL l := by rw [← hsh]; unfold shapeL; simp
        rw [← hR] at hrow gd
        obtain ⟨v1, v2, v3⟩ := v
        have hvv : Rec.av ⟨v1, v2, v3⟩ = [.c (.int .i64 v1), .c (.int .i64 v2), .c (.int .i64 v3)] := rfl
        simp only at hfin hsh2
        replace hfin := Lib.hid hfin
        replace hsh2 := Lib.hid hsh2
        clear hR hset o3 o4 ho1 hv hsh hnd ga
        repeat' (first
    | refine AW_seq_kn fun K hK => ?_
    | refine AW_block ?_
    | ((first
      | refine AW_region E0 ?_ | refine AW_ret ?_ | refine AW_exit ?_ | refine AW_skip ?_ | unfold retQ); try simp only [push_cast, seval, *])
    | (apply AW_cond; (case hc => (simp only [push_cast, seval]; rfl)); all_goals (intro hc; first | (exfalso; simp only [push_cast, seval, *] at hc; done) | (exact absurd hc (by decide)) | ((try first | rw [Bool.not_true] at hc | rw [Bool.not_false] at hc); first | (with_reducible replace hc := tTT hc); clear hc | (with_reducible replace hc := tFF hc); clear hc | (have hp := hc; try simp only [decide_eq_true_eq, decide_eq_false_iff_not, bA, bB, bC, bD, bE, bF, bG, bH] at hp))))
    | (refine Kn.go hK ?_; clear hK K)
    | refine Kn.go (by assumption) ?_
    | (intro n hn; (try simp only [upd_none2, join_none_iff, ite_none, ne_eq] at hn); (try simp only [push_cast, seval, *]))
    | (intro hc)
    | fail)
        exact ⟨(_, _), ⟨unhid hfin, unhid hsh2⟩, by (first | trivial | (simp only [push_cast, seval, *]; done)), Heap.le_refl _⟩
      · clear hS hsh g1
        clear l1 S
        rintro ⟨l1, S⟩ ⟨hS, hsh⟩
        simp only at hS hsh ⊢
        have hle := Heap.le_trans (unhid hleG) ((OwnG_loc _ _ _ _).le hS)
        replace hle := Lib.hid hle
        clear hS hsh
        repeat' (first
    | refine AW_seq_kn fun K hK => ?_
    | refine AW_block ?_
    | ((first
      | refine AW_region E0 ?_ | refine AW_ret ?_ | refine AW_exit ?_ | refine AW_skip ?_ | unfold retQ); try simp only [push_cast, seval, *])
    | (apply AW_cond; (case hc => (simp only [push_cast, seval]; rfl)); all_goals (intro hc; first | (exfalso; simp only [push_cast, seval, *] at hc; done) | (exact absurd hc (by decide)) | ((try first | rw [Bool.not_true] at hc | rw [Bool.not_false] at hc); first | (with_reducible replace hc := tTT hc); clear hc | (with_reducible replace hc := tFF hc); clear hc | (have hp := hc; try simp only [decide_eq_true_eq, decide_eq_false_iff_not, bA, bB, bC, bD, bE, bF, bG, bH] at hp))))
    | (refine Kn.go hK ?_; clear hK K)
    | refine Kn.go (by assumption) ?_
    | (intro n hn; (try simp only [upd_none2, join_none_iff, ite_none, ne_eq] at hn); (try simp only [push_cast, seval, *]))
    | (intro hc)
    | fail)
        exact ⟨_, _, Weak.refl _ _, unhid hle⟩
end Go.Proofs.Ytdeckjoeggmagaa
