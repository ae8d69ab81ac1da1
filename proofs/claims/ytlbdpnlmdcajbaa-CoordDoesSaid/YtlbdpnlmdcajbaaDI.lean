import Derived.Test.YtlbdpnlmdcajbaaM
import Derived.Test.YtlbdpnlmdcajbaaCU
/- A coordinator of one's own is written over: what becomes of it. -/
namespace Go.Proofs.Ytlbdpnlmdcajbaa
open Go.RowKit
open Nat renaming reduceEqDiff → nA, reduceLT → nB, reduceLeDiff → nC, reduceAdd → nD, reduceMul → nE, reduceSub → nF, reduceBEq → nG
open Int renaming reduceToNat → iA, reduceLT → iB, reduceLE → iC, reduceEq → iD
open Bool renaming and_eq_true → bA, or_eq_true → bB, or_eq_false_iff → bC, and_eq_false_iff → bD, not_eq_true' → bE, not_eq_false' → bF, not_true → bG, not_false → bH
set_option linter.all false
set_option maxHeartbeats 4000000
attribute [local irreducible] AW Does ACall tE tS tB tZ
set_option maxRecDepth 5000

theorem OwnA.open {x : AV} {l : List Ak} {A K : Heap} {i : Nat} {p : Ak} (h : OwnA x l A K) (hp : l[i]? = some p) :
    ∃ np cap R y A3, x = .s np 2 0 l.length cap ∧ R.length = l.length ∧ R[i]? = some (encA (y, p)) ∧ A np = some (.r 47 2 cap R) ∧ A3 np = some (.r 47 2 cap R) ∧ OwnL A y 5 1 (p.bytes.map by1) A3 ∧ (∀ m b, m ≠ np → K m = some b → A3 m = some b) ∧
      ∀ (y' : AV) (p' : Ak) (H' : Heap), OwnL H' y' 5 1 (p'.bytes.map by1) (upd A3 np (.r 47 2 cap (R.set i (encA (y', p'))))) → OwnA x (l.set i p') H' K := by
  obtain ⟨L, rfl, A1, o1, o2⟩ := h
  rw [List.getElem?_map] at hp
  obtain ⟨⟨y, p2⟩, hq, rfl⟩ := Option.map_eq_some_iff.1 hp
  have hi := (List.getElem?_eq_some_iff.1 hq).1
  obtain ⟨A2, c1, c2⟩ := o2.pick RA_loc hq
  rcases o1.split with ⟨ad, rfl, e, rfl⟩ | ⟨np, cap, rfl, rfl, hnp⟩
  · rw [List.map_eq_nil_iff.1 e] at hi; simp at hi
  have hnp2 : A2 np = none := (RA_loc y p2).old c1 hnp
  have c3 := (RA_loc y p2).new c1 hnp (.r 47 2 cap (L.map encA))
  refine ⟨np, cap, L.map encA, y, upd A2 np (.r 47 2 cap (L.map encA)), by simp, by simp, by rw [List.getElem?_map, hq]; rfl, upd_same _ _ _, upd_same _ _ _, c3, fun m b hm hb => by rw [upd_ne hm]; exact (Loc.chain RA_loc _).get c2 hb, fun y' p' H' h' => ?_⟩
  rw [upd_upd] at h'
  have e1 : (L.map encA).set i (encA (y', p')) = (L.set i (y', p')).map encA := by rw [List.map_set]
  rw [e1] at h'
  obtain ⟨C1, d1, d2⟩ := (RA_loc y' p').swap (Loc.own (.s np 2 0 (L.map encA).length cap) 47 2 ((L.set i (y', p')).map encA)) h' (OwnL.at (by simp) hnp2)
  exact ⟨L.set i (y', p'), by rw [List.map_set], C1, d1, Chain.put RA_loc d2 c2 hi⟩
theorem set_same {α : Type} {l : List α} {i : Nat} {x : α} (h : l[i]? = some x) : l.set i x = l := by
  apply List.ext_getElem?
  intro j
  rw [List.getElem?_set]
  split
  · rename_i e; subst e
    rw [h]; simp; exact (List.getElem?_eq_some_iff.1 h).1
  · rfl
/-- a byte of an ack, or its task -/
theorem OwnA.parts {x : AV} {l : List Ak} {A K : Heap} {k : Nat} {a : Ak} (h : OwnA x l A K) (hp : l[k]? = some a) :
    ∃ na cap R z, x = .s na 2 0 l.length cap ∧ R.length = l.length ∧ R[k]? = some [.c (.int .i64 a.task), z] ∧ A na = some (.r 47 2 cap R) ∧ z.cs = some [z] ∧ z.one = true ∧ lenV z = some a.bytes.length ∧ (∀ m b, K m = some b → ¬ m = na) ∧
      (∀ t', OwnA x (l.set k { a with task := t' }) (upd A na (.r 47 2 cap (R.set k [.c (.int .i64 t'), z]))) K) ∧
      (¬ a.bytes = [] → ∃ nz cz, z = .s nz 1 0 a.bytes.length cz ∧ A nz = some (.r 5 1 cz (a.bytes.map by1)) ∧ ¬ nz = na ∧ (∀ m b, K m = some b → ¬ m = nz) ∧ ∀ bs, bs.length = a.bytes.length → OwnA x (l.set k { a with bytes := bs }) (upd A nz (.r 5 1 cz (bs.map by1))) K) := by
  obtain ⟨na, cap, R, z, A3, rfl, hRl, hRk, q1, q2, ho, hq, hcl⟩ := h.open hp
  have hK : ∀ m b, K m = some b → ¬ m = na := fun m b hm e => by
    subst e
    obtain ⟨L, hL, A1, o1, o2⟩ := h
    rcases o1.split with ⟨ad, e, -, -⟩ | ⟨np', c2, e, -, hnp⟩
    · cases e
    · injection e with e1
      have := (Loc.chain RA_loc _).get o2 hm
      rw [e1, hnp] at this; cases this
  have hlen := ho.len
  rw [List.length_map] at hlen
  refine ⟨na, cap, R, z, rfl, hRl, hRk, q1, ho.cs, ho.one, hlen, hK, fun t' => ?_, fun hb => ?_⟩
  · have := hcl z { a with task := t' } (upd A na (.r 47 2 cap (R.set k (encA (z, { a with task := t' }))))) ((Loc.own _ _ _ _).turn ho q2 _)
    exact this
  · rcases ho.split with ⟨ad, -, e, -⟩ | ⟨nz, cz, rfl, rfl, hnz⟩
    · exact absurd (List.map_eq_nil_iff.1 e) hb
    have nn : ¬ nz = na := by rintro rfl; rw [hnz] at q2; cases q2
    refine ⟨nz, cz, by rw [List.length_map], upd_same _ _ _, nn, fun m b hm e => ?_, fun bs hbs => ?_⟩
    · subst e
      have := hq m b (hK m b hm) hm
      rw [hnz] at this; cases this
    · have h1 := hcl (.s nz 1 0 (a.bytes.map by1).length cz) { a with bytes := bs } (upd A3 nz (.r 5 1 cz (bs.map by1)))
      have e1 : R.set k (encA (.s nz 1 0 (a.bytes.map by1).length cz, { a with bytes := bs })) = R := set_same hRk
      rw [e1, upd_self q2] at h1
      rw [upd_upd]
      exact h1 (OwnL.at (by simp [hbs]) hnz)
/-- what is seen of a checkpoint of one's own, and of its acks -/
theorem OwnP.parts {x : AV} {l : List Pd} {A K : Heap} {i : Nat} {p : Pd} (h : OwnP x l A K) (hp : l[i]? = some p) :
    ∃ np cap R y, x = .s np 4 0 l.length cap ∧ R.length = l.length ∧ R[i]? = some [.c (.int .u64 p.num), .c (.int .i64 p.begun), .c (.bool p.save), y] ∧ A np = some (.r 61 4 cap R) ∧ y.cs = some [y] ∧ y.one = true ∧ lenV y = some p.acks.length ∧ (∀ m b, K m = some b → ¬ m = np) ∧
      (∀ b', OwnP x (l.set i { p with begun := b' }) (upd A np (.r 61 4 cap (R.set i [.c (.int .u64 p.num), .c (.int .i64 b'), .c (.bool p.save), y]))) K) ∧
      ∃ A3, A3 np = some (.r 61 4 cap R) ∧ OwnA y p.acks A A3 ∧ (∀ m b, K m = some b → A3 m = some b) ∧ ∀ l' H', OwnA y l' H' A3 → OwnP x (l.set i { p with acks := l' }) H' K := by
  obtain ⟨np, cap, R, y, A3, rfl, hRl, hRk, q1, q2, ho, hq, hcl⟩ := h.open hp
  have hK : ∀ m b, K m = some b → ¬ m = np := fun m b hm e => by
    subst e
    obtain ⟨L, hL, A1, o1, o2⟩ := h
    rcases o1.split with ⟨ad, e, -, -⟩ | ⟨np', c2, e, -, hnp⟩
    · cases e
    · injection e with e1
      have := (Loc.chain RP_loc _).get o2 hm
      rw [e1, hnp] at this; cases this
  refine ⟨np, cap, R, y, rfl, hRl, hRk, q1, ho.cs, ho.one, ho.len, hK, fun b' => ?_, A3, q2, ho, fun m b hm => hq m b (hK m b hm) hm, fun l' H' h' => ?_⟩
  · exact hcl y { p with begun := b' } (upd A np (.r 61 4 cap (R.set i (encP (y, { p with begun := b' }))))) ((OwnA_loc _ _).turn ho q2 _)
  · have e1 : R.set i (encP (y, { p with acks := l' })) = R := set_same hRk
    refine hcl y { p with acks := l' } H' ?_
    rw [e1, upd_self q2]
    exact h'
end Go.Proofs.Ytlbdpnlmdcajbaa

/- Walk: a coordinator of one's own is written over. -/
namespace Go.Proofs.Ytlbdpnlmdcajbaa
open Go.RowKit
open Nat renaming reduceEqDiff → nA, reduceLT → nB, reduceLeDiff → nC, reduceAdd → nD, reduceMul → nE, reduceSub → nF, reduceBEq → nG
open Int renaming reduceToNat → iA, reduceLT → iB, reduceLE → iC, reduceEq → iD
open Bool renaming and_eq_true → bA, or_eq_true → bB, or_eq_false_iff → bC, and_eq_false_iff → bD, not_eq_true' → bE, not_eq_false' → bF, not_true → bG, not_false → bH
set_option linter.all false
set_option maxHeartbeats 4000000
attribute [local irreducible] AW Does ACall tE tS tB tZ
set_option maxRecDepth 5000

def shpA (l : List Ak) : List Nat := l.map fun a => a.bytes.length
def shpP (l : List Pd) : List (List Nat) := l.map fun p => shpA p.acks
theorem shpA_set {l : List Ak} {k : Nat} {a a' : Ak} (h : l[k]? = some a) (e : a'.bytes.length = a.bytes.length) : shpA (l.set k a') = shpA l := by
  unfold shpA
  rw [List.map_set, e]
  exact set_same (by rw [List.getElem?_map, h]; rfl)
theorem shpP_set {l : List Pd} {i : Nat} {p p' : Pd} (h : l[i]? = some p) (e : shpA p'.acks = shpA p.acks) : shpP (l.set i p') = shpP l := by
  unfold shpP
  rw [List.map_set, e]
  exact set_same (by rw [List.getElem?_map, h]; rfl)
theorem shpP_at {l l' : List Pd} (h : shpP l' = shpP l) {i : Nat} {p p' : Pd} (hp : l[i]? = some p) (hp' : l'[i]? = some p') : shpA p'.acks = shpA p.acks := by
  have := congrArg (fun z : List (List Nat) => z[i]?) h
  simp only [shpP, List.getElem?_map, hp, hp', Option.map_some, Option.some.injEq] at this
  exact this
theorem shpA_at {l l' : List Ak} (h : shpA l' = shpA l) {i : Nat} {p p' : Ak} (hp : l[i]? = some p) (hp' : l'[i]? = some p') : p'.bytes.length = p.bytes.length := by
  have := congrArg (fun z : List Nat => z[i]?) h
  simp only [shpA, List.getElem?_map, hp, hp', Option.map_some, Option.some.injEq] at this
  exact this
theorem shpA_len {l l' : List Ak} (h : shpA l' = shpA l) : l'.length = l.length := by
  have := congrArg List.length h; simpa [shpA] using this
theorem shpP_len {l l' : List Pd} (h : shpP l' = shpP l) : l'.length = l.length := by
  have := congrArg List.length h; simpa [shpP] using this
theorem at_some {α : Type} {l : List α} {i : Nat} (h : i < l.length) : ∃ x, l[i]? = some x := ⟨_, List.getElem?_eq_getElem h⟩
theorem spoil_a (l : List Pd) (c : Cd) (hl : l.length ≤ 1000) (hbd : ∀ p ∈ l, p.acks.length ≤ 1000 ∧ ∀ a ∈ p.acks, a.bytes.length ≤ 100000) (x : AV) (A G : Heap) (h : OwnP x l A G) :
    ACall Try.prog 23 [.g (c.cl x)] A fun _ A' => Heap.le G A' := by
  have ucs := h.cs
  have uone := h.one
  have ulen := h.len
  obtain ⟨N, hN⟩ : ∃ q, q = l.length := ⟨_, rfl⟩
  have hlen : ∀ l' : List Pd, shpP l' = shpP l → l'.length = N := fun l' e => by rw [hN]; exact shpP_len e
  have hbb : ∀ (i : Nat) (p : Pd), l[i]? = some p → p.acks.length ≤ 1000 ∧ ∀ (k : Nat) (a : Ak), p.acks[k]? = some a → a.bytes.length ≤ 100000 := fun i p hp => ⟨(hbd p (List.mem_of_getElem? hp)).1, fun k a ha => (hbd p (List.mem_of_getElem? hp)).2 a (List.mem_of_getElem? ha)⟩
  rw [← hN] at hl ulen
  simp only [Cd.cl]
  replace hlen := Lib.hid hlen
  replace hbb := Lib.hid hbb
  replace hN := Lib.hid hN
  replace h := Lib.hid h
  clear hbd
  refine ACall_of' Try.func23 rfl (Ent_of Try.func23 (by kernel_rfl) rfl) (by simp [Try.ntmps23]) ?_; simp only [Try.ntmps23, Try.results23]
  repeat' (first
    | refine AW_seq_kn fun K hK => ?_
    | refine AW_block ?_
    | ((first
      | refine AW_region E0 ?_ | refine AW_ret ?_ | refine AW_exit ?_ | refine AW_skip ?_ | unfold retQ); try simp only [push_cast, seval, *])
    | (apply AW_cond; (case hc => (simp only [push_cast, seval]; rfl)); all_goals (intro hc; first | (exfalso; simp only [push_cast, seval, *] at hc; done) | (exact absurd hc (by decide)) | ((try first | rw [Bool.not_true] at hc | rw [Bool.not_false] at hc); first | (with_reducible replace hc := tTT hc); clear hc | (with_reducible replace hc := tFF hc); clear hc | (have hp := hc; try simp only [decide_eq_true_eq, decide_eq_false_iff_not, bA, bB, bC, bD, bE, bF, bG, bH] at hp))))
    | (refine Kn.go hK ?_; clear hK K)
    | refine Kn.go (by assumption) ?_
    | (intro n hn; (try simp only [upd_none2, join_none_iff, ite_none, ne_eq] at hn); (try simp only [push_cast, seval, *]))
    | (intro hc)
    | fail)
  generalize n = n1 at *
  obtain ⟨b1, hb1⟩ : ∃ b1 : Blk, b1 = .r 30 6 1 [[.c (.int .u64 c.epoch), .c (.int .u64 c.counter), .c (.int .i64 c.tasks), .c (.int .i64 c.attempt), .c (.int .i64 c.span), x]] := ⟨_, rfl⟩
  rw [← hb1]
  obtain ⟨Gl, hGl⟩ : ∃ Gl : Heap, Gl = upd G n1 b1 := ⟨_, rfl⟩
  have hG0 := (OwnP_loc x l).new (unhid h) hn b1
  rw [← hGl] at hG0
  have gl1 : Gl n1 = some (.r 30 6 1 [[.c (.int .u64 c.epoch), .c (.int .u64 c.counter), .c (.int .i64 c.tasks), .c (.int .i64 c.attempt), .c (.int .i64 c.span), x]]) := by rw [hGl, upd_same, hb1]
  have hleG : Heap.le G Gl := by rw [hGl]; exact le_upd_new ((OwnP_loc x l).old (unhid h) hn)
  replace hG0 := Lib.hid hG0
  replace hleG := Lib.hid hleG
  clear hGl h hn
  refine AW_loopX (σ := List Pd × Heap) N (fun _ s => OwnP x s.1 s.2 Gl ∧ shpP s.1 = shpP l) (fun i _ => [(1, .p n1 6 0 0), (7, ci N), (8, ci i)]) (fun _ s => s.2) (l, upd A n1 b1) ⟨unhid hG0, rfl⟩ ?_ ?_ ?_ ?_
  · (first | trivial | (simp only [push_cast, seval, *]; done))
  · exact Heap.le_refl _
  · rintro i ⟨l1, S⟩ hi ⟨hS, hsh⟩
    simp only at hS hsh ⊢
    have hil : (i : Int) < N := (by omega); have hiw : IntKind.i64.wrap ((i : Int) + 1) = (i : Int) + 1 := wrap_i64 (by omega) (by omega)
    have q1 := unhid hlen l1 hsh
    obtain ⟨p, hp⟩ := at_some (l := l1) (i := i) (by omega)
    obtain ⟨p0, hp0⟩ := at_some (l := l) (i := i) (by have := unhid hN; omega)
    have hpsh := shpP_at hsh hp0 hp
    have hm := (unhid hbb i p0 hp0).1
    have hbk := (unhid hbb i p0 hp0).2
    have hpl := shpA_len hpsh
    have g1 := (OwnP_loc x l1).get hS gl1
    obtain ⟨np, cap, R, y, ex, hRl, hRi, snp, ycs, yone, ylen, hK, hbeg, -⟩ := hS.parts hp
    rw [q1] at ex
    rw [hpl] at ylen
    have m1 : ¬ n1 = np := hK n1 _ gl1
    have m1' : ¬ np = n1 := fun h => m1 h.symm
    have hX2 := hbeg 99
    have hsh2 : shpP (l1.set i { p with begun := 99 }) = shpP l := (shpP_set (p' := { p with begun := 99 }) hp rfl).trans hsh
    have hRi2 : i < R.length := by omega
    obtain ⟨m, hmm⟩ : ∃ m, m = p0.acks.length := ⟨_, rfl⟩
    rw [← hmm] at hm ylen
    have hstp : ∀ l3 : List Pd, shpP l3 = shpP l → ∀ p3, l3[i]? = some p3 → shpA p3.acks = shpA p0.acks := fun l3 h3 p3 hp3 => shpP_at h3 hp0 hp3
    obtain ⟨num, bg, sv, ac⟩ := p
    simp only at hRi hX2 hsh2
    replace hX2 := Lib.hid hX2
    replace hsh2 := Lib.hid hsh2
    replace hstp := Lib.hid hstp
    replace hbk := Lib.hid hbk
    replace hmm := Lib.hid hmm
    clear hS hsh hp hpsh hpl hK hbeg q1 ucs uone ulen hRl
    subst ex
    repeat' (first
    | refine AW_seq_kn fun K hK => ?_
    | refine AW_block ?_
    | ((first
      | refine AW_region E0 ?_ | refine AW_ret ?_ | refine AW_exit ?_ | refine AW_skip ?_ | unfold retQ); try simp only [push_cast, seval, *])
    | (apply AW_cond; (case hc => (simp only [push_cast, seval]; rfl)); all_goals (intro hc; first | (exfalso; simp only [push_cast, seval, *] at hc; done) | (exact absurd hc (by decide)) | ((try first | rw [Bool.not_true] at hc | rw [Bool.not_false] at hc); first | (with_reducible replace hc := tTT hc); clear hc | (with_reducible replace hc := tFF hc); clear hc | (have hp := hc; try simp only [decide_eq_true_eq, decide_eq_false_iff_not, bA, bB, bC, bD, bE, bF, bG, bH] at hp))))
    | (refine Kn.go hK ?_; clear hK K)
    | refine Kn.go (by assumption) ?_
    | (intro n hn; (try simp only [upd_none2, join_none_iff, ite_none, ne_eq] at hn); (try simp only [push_cast, seval, *]))
    | (intro hc)
    | fail)
    refine AW_loopX (σ := List Pd × Heap) m (fun _ s => OwnP (.s np 4 0 N cap) s.1 s.2 Gl ∧ shpP s.1 = shpP l) (fun k _ => [(1, .p n1 6 0 0), (2, ci i), (7, ci N), (8, ci i), (22, ci m), (23, ci k)]) (fun _ s => s.2) (_, _) ⟨unhid hX2, unhid hsh2⟩ ?_ ?_ ?_ ?_
    · (first | trivial | (simp only [push_cast, seval, *]; done))
    · exact Heap.le_refl _
    · clear hX2 hsh2 hRi snp ycs yone ylen g1 hRi2 y R S l1
      rintro k ⟨l1, S⟩ hk ⟨hS, hsh⟩
      simp only at hS hsh ⊢
      have hkl : (k : Int) < m := (by omega); have hkw : IntKind.i64.wrap ((k : Int) + 1) = (k : Int) + 1 := wrap_i64 (by omega) (by omega)
      have q1 := unhid hlen l1 hsh
      obtain ⟨p, hp⟩ := at_some (l := l1) (i := i) (by omega)
      have hpsh := unhid hstp l1 hsh p hp
      have hpl := shpA_len hpsh
      rw [← unhid hmm] at hpl
      have g1 := (OwnP_loc _ l1).get hS gl1
      obtain ⟨np', cap', R, y, ex, hRl, hRi, snp, ycs, yone, ylen, hK, -, A3, hA3, hoA, hA3le, hcl⟩ := hS.parts hp
      rw [q1] at ex
      injection ex with ex1 _ _ _ ex2
      subst ex1 ex2
      obtain ⟨a, ha⟩ := at_some (l := p.acks) (i := k) (by omega)
      obtain ⟨a0, ha0⟩ := at_some (l := p0.acks) (i := k) (by have := unhid hmm; omega)
      have hal := shpA_at hpsh ha0 ha
      have hq := unhid hbk k a0 ha0
      obtain ⟨na, cap2, R2, z, ey, hR2l, hR2k, sna, zcs, zone, zlen, hK2, htask, -⟩ := hoA.parts ha
      rw [hpl] at ey
      rw [hal] at zlen
      have m2 : ¬ n1 = na := hK2 n1 _ (hA3le _ _ gl1)
      have m3 : ¬ np = na := hK2 np _ hA3
      have m2' : ¬ na = n1 := fun h => m2 h.symm
      have m3' : ¬ na = np := fun h => m3 h.symm
      have hX2 := hcl _ _ (htask 99)
      have hsh2 : shpP (l1.set i { p with acks := p.acks.set k { a with task := 99 } }) = shpP l := (shpP_set (p' := { p with acks := p.acks.set k { a with task := 99 } }) hp (shpA_set ha rfl)).trans hsh
      have hRi2 : i < R.length := by omega
      have hRk2 : k < R2.length := by omega
      obtain ⟨q, hqq⟩ : ∃ q, q = a0.bytes.length := ⟨_, rfl⟩
      rw [← hqq] at hq zlen
      have hstq : ∀ l3 : List Pd, shpP l3 = shpP l → ∀ p3, l3[i]? = some p3 → ∀ a3, p3.acks[k]? = some a3 → a3.bytes.length = q := fun l3 h3 p3 hp3 a3 ha3 => by rw [hqq]; exact shpA_at (unhid hstp l3 h3 p3 hp3) ha0 ha3
      obtain ⟨num', bg', sv', ac'⟩ := p
      obtain ⟨at', ab'⟩ := a
      simp only at hRi hX2 hsh2 hR2k
      replace hX2 := Lib.hid hX2
      replace hsh2 := Lib.hid hsh2
      replace hstq := Lib.hid hstq
      clear hS hsh hp hpsh hpl hK q1 hA3 hoA hA3le hcl ha ha0 hal hqq hK2 htask hRl hR2l
      subst ey
      repeat' (first
    | refine AW_seq_kn fun K hK => ?_
    | refine AW_block ?_
    | ((first
      | refine AW_region E0 ?_ | refine AW_ret ?_ | refine AW_exit ?_ | refine AW_skip ?_ | unfold retQ); try simp only [push_cast, seval, *])
    | (apply AW_cond; (case hc => (simp only [push_cast, seval]; rfl)); all_goals (intro hc; first | (exfalso; simp only [push_cast, seval, *] at hc; done) | (exact absurd hc (by decide)) | ((try first | rw [Bool.not_true] at hc | rw [Bool.not_false] at hc); first | (with_reducible replace hc := tTT hc); clear hc | (with_reducible replace hc := tFF hc); clear hc | (have hp := hc; try simp only [decide_eq_true_eq, decide_eq_false_iff_not, bA, bB, bC, bD, bE, bF, bG, bH] at hp))))
    | (refine Kn.go hK ?_; clear hK K)
    | refine Kn.go (by assumption) ?_
    | (intro n hn; (try simp only [upd_none2, join_none_iff, ite_none, ne_eq] at hn); (try simp only [push_cast, seval, *]))
    | (intro hc)
    | fail)
      refine AW_loopX (σ := List Pd × Heap) q (fun _ s => OwnP (.s np 4 0 N cap) s.1 s.2 Gl ∧ shpP s.1 = shpP l) (fun j _ => [(1, .p n1 6 0 0), (2, ci i), (3, ci k), (7, ci N), (8, ci i), (22, ci m), (23, ci k), (45, ci q), (46, ci j)]) (fun _ s => s.2) (_, _) ⟨unhid hX2, unhid hsh2⟩ ?_ ?_ ?_ ?_
      · (first | trivial | (simp only [push_cast, seval, *]; done))
      · exact Heap.le_refl _
      · clear hX2 hsh2 hRi snp ycs yone ylen g1 hRi2 hRk2 hR2k zcs zone zlen sna m2 m2' m3 m3' A3 z R2 R S l1 cap2 na
        rintro j ⟨l1, S⟩ hj ⟨hS, hsh⟩
        simp only at hS hsh ⊢
        have hjl : (j : Int) < q := (by omega); have hjw : IntKind.i64.wrap ((j : Int) + 1) = (j : Int) + 1 := wrap_i64 (by omega) (by omega)
        have q1 := unhid hlen l1 hsh
        obtain ⟨p, hp⟩ := at_some (l := l1) (i := i) (by omega)
        have hpsh := unhid hstp l1 hsh p hp
        have hpl := shpA_len hpsh
        rw [← unhid hmm] at hpl
        have g1 := (OwnP_loc _ l1).get hS gl1
        obtain ⟨np', cap', R, y, ex, hRl, hRi, snp, ycs, yone, ylen, hK, -, A3, hA3, hoA, hA3le, hcl⟩ := hS.parts hp
        rw [q1] at ex
        injection ex with ex1 _ _ _ ex2
        subst ex1 ex2
        obtain ⟨a, ha⟩ := at_some (l := p.acks) (i := k) (by omega)
        have hal := unhid hstq l1 hsh p hp a ha
        obtain ⟨na, cap2, R2, z, ey, hR2l, hR2k, sna, zcs, zone, zlen, hK2, -, hbyte⟩ := hoA.parts ha
        rw [hpl] at ey
        obtain ⟨nz, cz, ez, snz, -, -, hby⟩ := hbyte (by intro e; rw [e] at hal; simp at hal; omega)
        rw [hal] at ez
        obtain ⟨v, hv⟩ := at_some (l := a.bytes) (i := j) (by omega)
        have hrv : (a.bytes.map by1)[j]? = some [.c (.int .u8 v)] := by rw [List.getElem?_map, hv]; rfl
        have hX2 := hcl _ _ (hby (a.bytes.set j (bits .xor .u8 v 238)) (by simp))
        have hset : (a.bytes.set j (bits .xor .u8 v 238)).map by1 = (a.bytes.map by1).set j [.c (.int .u8 (bits .xor .u8 v 238))] := by rw [List.map_set]; rfl
        rw [hset] at hX2
        have hsh2 : shpP (l1.set i { p with acks := p.acks.set k { a with bytes := a.bytes.set j (bits .xor .u8 v 238) } }) = shpP l := (shpP_set (p' := { p with acks := p.acks.set k { a with bytes := a.bytes.set j (bits .xor .u8 v 238) } }) hp (shpA_set ha (by simp))).trans hsh
        have hbl : (a.bytes.map by1).length = q := by rw [List.length_map, hal]
        obtain ⟨num', bg', sv', ac'⟩ := p
        obtain ⟨at', ab'⟩ := a
        simp only at hRi hX2 hsh2 hR2k snz hrv hbl
        generalize ab'.map by1 = BB at *
        replace hX2 := Lib.hid hX2
        replace hsh2 := Lib.hid hsh2
        clear hS hsh hp hpsh hpl hK q1 hA3 hoA hA3le hcl ha hal hK2 hby hbyte hv hset ycs yone ylen zcs zone zlen hRl hR2l
        subst ey ez
        repeat' (first
    | refine AW_seq_kn fun K hK => ?_
    | refine AW_block ?_
    | ((first
      | refine AW_region E0 ?_ | refine AW_ret ?_ | refine AW_exit ?_ | refine AW_skip ?_ | unfold retQ); try simp only [push_cast, seval, *])
    | (apply AW_cond; (case hc => (simp only [push_cast, seval]; rfl)); all_goals (intro hc; first | (exfalso; simp only [push_cast, seval, *] at hc; done) | (exact absurd hc (by decide)) | ((try first | rw [Bool.not_true] at hc | rw [Bool.not_false] at hc); first | (with_reducible replace hc := tTT hc); clear hc | (with_reducible replace hc := tFF hc); clear hc | (have hp := hc; try simp only [decide_eq_true_eq, decide_eq_false_iff_not, bA, bB, bC, bD, bE, bF, bG, bH] at hp))))
    | (refine Kn.go hK ?_; clear hK K)
    | refine Kn.go (by assumption) ?_
    | (intro n hn; (try simp only [upd_none2, join_none_iff, ite_none, ne_eq] at hn); (try simp only [push_cast, seval, *]))
    | (intro hc)
    | fail)
        exact ⟨(_, _), ⟨unhid hX2, unhid hsh2⟩, by (first | trivial | (simp only [push_cast, seval, *]; done)), Heap.le_refl _⟩
      · clear hX2 hsh2 hRi snp ycs yone ylen g1 hRi2 hRk2 hR2k zcs zone zlen sna m2 m2' m3 m3' A3 z R2 R S l1 cap2 na
        rintro ⟨l1, S⟩ ⟨hS, hsh⟩
        simp only at hS hsh ⊢
        replace hS := Lib.hid hS
        replace hsh := Lib.hid hsh
        repeat' (first
    | refine AW_seq_kn fun K hK => ?_
    | refine AW_block ?_
    | ((first
      | refine AW_region E0 ?_ | refine AW_ret ?_ | refine AW_exit ?_ | refine AW_skip ?_ | unfold retQ); try simp only [push_cast, seval, *])
    | (apply AW_cond; (case hc => (simp only [push_cast, seval]; rfl)); all_goals (intro hc; first | (exfalso; simp only [push_cast, seval, *] at hc; done) | (exact absurd hc (by decide)) | ((try first | rw [Bool.not_true] at hc | rw [Bool.not_false] at hc); first | (with_reducible replace hc := tTT hc); clear hc | (with_reducible replace hc := tFF hc); clear hc | (have hp := hc; try simp only [decide_eq_true_eq, decide_eq_false_iff_not, bA, bB, bC, bD, bE, bF, bG, bH] at hp))))
    | (refine Kn.go hK ?_; clear hK K)
    | refine Kn.go (by assumption) ?_
    | (intro n hn; (try simp only [upd_none2, join_none_iff, ite_none, ne_eq] at hn); (try simp only [push_cast, seval, *]))
    | (intro hc)
    | fail)
        exact ⟨(l1, S), ⟨unhid hS, unhid hsh⟩, by (first | trivial | (simp only [push_cast, seval, *]; done)), Heap.le_refl _⟩
    · clear hX2 hsh2 hRi snp ycs yone ylen g1 hRi2 y R S l1
      rintro ⟨l1, S⟩ ⟨hS, hsh⟩
      simp only at hS hsh ⊢
      replace hS := Lib.hid hS
      replace hsh := Lib.hid hsh
      repeat' (first
    | refine AW_seq_kn fun K hK => ?_
    | refine AW_block ?_
    | ((first
      | refine AW_region E0 ?_ | refine AW_ret ?_ | refine AW_exit ?_ | refine AW_skip ?_ | unfold retQ); try simp only [push_cast, seval, *])
    | (apply AW_cond; (case hc => (simp only [push_cast, seval]; rfl)); all_goals (intro hc; first | (exfalso; simp only [push_cast, seval, *] at hc; done) | (exact absurd hc (by decide)) | ((try first | rw [Bool.not_true] at hc | rw [Bool.not_false] at hc); first | (with_reducible replace hc := tTT hc); clear hc | (with_reducible replace hc := tFF hc); clear hc | (have hp := hc; try simp only [decide_eq_true_eq, decide_eq_false_iff_not, bA, bB, bC, bD, bE, bF, bG, bH] at hp))))
    | (refine Kn.go hK ?_; clear hK K)
    | refine Kn.go (by assumption) ?_
    | (intro n hn; (try simp only [upd_none2, join_none_iff, ite_none, ne_eq] at hn); (try simp only [push_cast, seval, *]))
    | (intro hc)
    | fail)
      exact ⟨(l1, S), ⟨unhid hS, unhid hsh⟩, by (first | trivial | (simp only [push_cast, seval, *]; done)), Heap.le_refl _⟩
  · rintro ⟨l1, S⟩ ⟨hS, hsh⟩
    simp only at hS hsh ⊢
    have hfin := Heap.le_trans (unhid hleG) ((OwnP_loc x l1).le hS)
    replace hfin := Lib.hid hfin
    clear hS hsh
    repeat' (first
    | refine AW_seq_kn fun K hK => ?_
    | refine AW_block ?_
    | ((first
      | refine AW_region E0 ?_ | refine AW_ret ?_ | refine AW_exit ?_ | refine AW_skip ?_ | unfold retQ); try simp only [push_cast, seval, *])
    | (apply AW_cond; (case hc => (simp only [push_cast, seval]; rfl)); all_goals (intro hc; first | (exfalso; simp only [push_cast, seval, *] at hc; done) | (exact absurd hc (by decide)) | ((try first | rw [Bool.not_true] at hc | rw [Bool.not_false] at hc); first | (with_reducible replace hc := tTT hc); clear hc | (with_reducible replace hc := tFF hc); clear hc | (have hp := hc; try simp only [decide_eq_true_eq, decide_eq_false_iff_not, bA, bB, bC, bD, bE, bF, bG, bH] at hp))))
    | (refine Kn.go hK ?_; clear hK K)
    | refine Kn.go (by assumption) ?_
    | (intro n hn; (try simp only [upd_none2, join_none_iff, ite_none, ne_eq] at hn); (try simp only [push_cast, seval, *]))
    | (intro hc)
    | fail)
    exact ⟨_, _, Weak.refl _ _, unhid hfin⟩
end Go.Proofs.Ytlbdpnlmdcajbaa
