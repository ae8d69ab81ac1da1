/- Declined; given up; begun anew. -/
import Derived.Test.YtlbdpnlmdcajbaaQ
namespace Go.Proofs.Ytlbdpnlmdcajbaa
open Go.RowKit
open Nat renaming reduceEqDiff → nA, reduceLT → nB, reduceLeDiff → nC, reduceAdd → nD, reduceMul → nE, reduceSub → nF, reduceBEq → nG
open Int renaming reduceToNat → iA, reduceLT → iB, reduceLE → iC, reduceEq → iD
open Bool renaming and_eq_true → bA, or_eq_true → bB, or_eq_false_iff → bC, and_eq_false_iff → bD, not_eq_true' → bE, not_eq_false' → bF, not_true → bG, not_false → bH
set_option linter.all false
set_option maxHeartbeats 4000000
attribute [local irreducible] AW Does ACall tE tS tB tZ
set_option maxRecDepth 5000

theorem post_fin {R : HR} (hR : Loc R) {x' : AV} {l' : List Pd} {Hf H1 base Gm : Heap} {nb : Nat} {bx : Blk} (h1 : R Hf H1) (h2 : OwnP x' l' H1 base) (hb : Heap.le (upd Gm nb bx) base) (hGm : Gm nb = none) :
    ∃ Hf' G', Heap.le Hf' Hf ∧ R G' Gm ∧ G' nb = none ∧ OwnP x' l' Hf' (upd G' nb bx) := by
  obtain ⟨H3, a1, a2⟩ := hR.swap (OwnP_loc x' l') h1 h2
  obtain ⟨H4, b1, b2⟩ := hR.cut a2 hb
  obtain ⟨Hf', c1, c2⟩ := (OwnP_loc x' l').cut a1 b1
  have k4 := hR.get b2 (upd_same _ _ _)
  have d := hR.dele b2 (upd_same _ _ _)
  rw [del_upd_same hGm] at d
  exact ⟨Hf', del H4 nb, c1, d, del_same _ _, by rw [upd_del, upd_self k4]; exact c2⟩
theorem OwnP.dels {x : AV} {l : List Pd} {A K : Heap} {i : Nat} {p : Pd} (h : OwnP x l A K) (hp : l[i]? = some p) :
    ∃ (L : List (AV × Pd)) (y : AV) (A1 A2 : Heap), L.map Prod.snd = l ∧ i < L.length ∧ (L.map encP)[i]? = some (encP (y, p)) ∧ OwnL A x 61 4 (L.map encP) A1 ∧ OwnA y p.acks A1 A2 ∧ Chain RP (L.eraseIdx i) A2 K ∧ (L.map encP).take i ++ (L.map encP).drop (i + 1) = (L.eraseIdx i).map encP ∧ (L.eraseIdx i).map Prod.snd = l.eraseIdx i := by
  obtain ⟨L, rfl, A1, o1, o2⟩ := h
  rw [List.getElem?_map] at hp
  obtain ⟨⟨y, p2⟩, hq, rfl⟩ := Option.map_eq_some_iff.1 hp
  obtain ⟨A2, c1, c2⟩ := o2.pick RP_loc hq
  refine ⟨L, y, A1, A2, rfl, (List.getElem?_eq_some_iff.1 hq).1, by rw [List.getElem?_map, hq]; rfl, o1, c1, c2, ?_, ?_⟩
  · rw [List.eraseIdx_eq_take_drop_succ, List.map_append, List.map_take, List.map_drop]
  · rw [List.eraseIdx_eq_take_drop_succ, List.eraseIdx_eq_take_drop_succ, List.map_append, List.map_take, List.map_drop]
def decC (c : Cd) (n : Int) : Cd := { c with pend := c.pend.eraseIdx (fndS c.pend n).toNat }
theorem dec1_a (c : Cd) (hok : cdOk c = true) (nm at_ : Int) (x : AV) (A : Heap) (nb : Nat) (G : Heap) (hnb : G nb = none) (m1 m2 : Nat) (h1 : G m1 = some (.r 25 1 1 [[.c (.int .u64 nm)]])) (h2 : G m2 = some (.r 3 1 1 [[.c (.int .i64 at_)]])) (h : OwnP x c.pend A (upd G nb (bxC c x))) :
    ACall Try.prog 72 ([.p nb 6 0 0] ++ [.p m1 1 0 0, .p m2 1 0 0]) A fun r A' => r = .c (.int .i64 (oursE c nm at_)) ∧ ((oursE c nm at_ = 0 ∧ ∃ x' G', G' = G ∧ G' nb = none ∧ OwnP x' (decC c nm).pend A' (upd G' nb (bxC (decC c nm) x'))) ∨ (¬ oursE c nm at_ = 0 ∧ ∃ G', G' = G ∧ Heap.le G' A')) := by
  have hne : ∀ m b, G m = some b → ¬ m = nb := fun m b hm => by rintro rfl; rw [hm] at hnb; cases hnb
  have kb := (OwnP_loc x c.pend).get h (upd_same _ _ _)
  have k1 := (OwnP_loc x c.pend).get h (m := m1) (by rw [upd_ne (hne _ _ h1)]; exact h1)
  have k2 := (OwnP_loc x c.pend).get h (m := m2) (by rw [upd_ne (hne _ _ h2)]; exact h2)
  have hle : Heap.le G A := Heap.le_trans (le_upd_new hnb) ((OwnP_loc x c.pend).le h)
  obtain ⟨hl2, hbd⟩ := cdOk_bd hok
  have hours := ours_o x c (by omega) nb A _ h (upd_same _ _ _) nm at_
  have hat := fun he : oursE c nm at_ = 0 => oursE_at he
  generalize hE : oursE c nm at_ = E at *
  obtain ⟨Q, hQ⟩ : ∃ Q : AV → Heap → Prop, Q = fun r A' => r = .c (.int .i64 E) ∧ ((E = 0 ∧ ∃ x' G', G' = G ∧ G' nb = none ∧ OwnP x' (decC c nm).pend A' (upd G' nb (bxC (decC c nm) x'))) ∨ (¬ E = 0 ∧ ∃ G', G' = G ∧ Heap.le G' A')) := ⟨_, rfl⟩
  rw [← hQ]
  have hbad : ¬ E = 0 → Q (.c (.int .i64 E)) A := fun he => by rw [hQ]; exact ⟨rfl, .inr ⟨he, G, rfl, hle⟩⟩
  have hgood : E = 0 → ∀ x' A', OwnP x' (decC c nm).pend A' (upd G nb (bxC c x')) → Q (.c (.int .i64 0)) A' := fun he x' A' ho => by rw [hQ]; subst he; exact ⟨rfl, .inl ⟨rfl, x', _, rfl, hnb, ho⟩⟩
  clear hQ hle hne hok h1 h2 hnb
  have hxcs := h.cs
  simp only [decC] at hgood
  simp only [bxC, Cd.cl] at kb
  simp only [List.cons_append, List.nil_append] at *
  replace hbad := Lib.hid hbad
  replace hgood := Lib.hid hgood
  replace hat := Lib.hid hat
  replace h := Lib.hid h
  by_cases hE0 : E = 0
  rotate_left
  · have hOF := eq_false hE0
    replace hE := Lib.hid hE
    refine ACall_of' Try.func72 rfl (Ent_of Try.func72 (by kernel_rfl) rfl) (by simp [Try.ntmps72]) ?_; simp only [Try.ntmps72, Try.results72]
    repeat' (first
    | refine AW_seq_kn fun K hK => ?_
    | refine AW_block ?_
    | (refine does_call rfl rfl ?_; simp only [push_cast, seval, *]; refine ACall.mono hours ?_; (rintro _ _ ⟨rfl, e2⟩; have e3 := e2.symm; clear e2; subst e3); (try simp only [push_cast, seval, *]))
    | ((first
      | refine AW_region E0 ?_ | refine AW_ret ?_ | refine AW_exit ?_ | refine AW_skip ?_ | unfold retQ); try simp only [push_cast, seval, *])
    | (apply AW_cond; (case hc => (simp only [push_cast, seval]; rfl)); all_goals (intro hc; first | (exfalso; simp only [push_cast, seval, *] at hc; done) | (exact absurd hc (by decide)) | ((try first | rw [Bool.not_true] at hc | rw [Bool.not_false] at hc); first | (with_reducible replace hc := tTT hc); clear hc | (with_reducible replace hc := tFF hc); clear hc | (have hp := hc; try simp only [decide_eq_true_eq, decide_eq_false_iff_not, bA, bB, bC, bD, bE, bF, bG, bH] at hp))))
    | (refine Kn.go hK ?_; clear hK K)
    | refine Kn.go (by assumption) ?_
    | (intro n hn; (try simp only [upd_none2, join_none_iff, ite_none, ne_eq] at hn); (try simp only [push_cast, seval, *]))
    | (intro hc)
    | fail)
    exact ⟨_, _, Weak.refl _ _, unhid hbad hE0⟩
  obtain ⟨i, hfi, hpi⟩ := unhid hat hE0
  subst hE0
  rw [hfi] at hours hgood
  obtain ⟨L, y, A1, A2, hLl, hiL, -, o1, o2, o3, e1, e2⟩ := (unhid h).dels hpi
  have hdel := pdel_o o1 (i := i) (j := i + 1) (by omega) (by rw [List.length_map]; omega)
  rw [e1] at hdel
  have hil := (List.getElem?_eq_some_iff.1 hpi).1
  have hiw : IntKind.i64.wrap ((i : Int) + 1) = ((i + 1 : Nat) : Int) := by rw [wrap_i64 (by omega) (by omega)]; omega
  have q2 := (Loc.chain RP_loc _).get o3 (upd_same _ _ _)
  have q1 := (OwnA_loc y _).get o2 q2
  have hfin : ∀ r H', OwnL H' r 61 4 ((L.eraseIdx i).map encP) A1 → H' nb = some (bxC c x) ∧ ∃ H2, Heap.le H2 (upd H' nb (bxC c r)) ∧ Q (.c (.int .i64 0)) H2 := fun r H' ho => by
    refine ⟨(Loc.own _ _ _ _).get ho q1, ?_⟩
    have t1 := (Loc.own _ _ _ _).turn ho q1 (bxC c r)
    have t2 := (OwnA_loc y _).turn o2 q2 (bxC c r)
    have t3 := (Loc.chain RP_loc _).turn o3 (upd_same _ _ _) (bxC c r)
    rw [upd_upd] at t3
    obtain ⟨H2, f1, f2⟩ := (Loc.own r 61 4 ((L.eraseIdx i).map encP)).cut t1 ((OwnA_loc y _).le t2)
    exact ⟨H2, f1, unhid hgood rfl r H2 ⟨L.eraseIdx i, by rw [e2]; rfl, _, f2, t3⟩⟩
  simp only [bxC, Cd.cl] at hfin
  push_cast at hdel hiw
  clear hbad hgood hat o1 o2 o3 q1 q2 h hE hpi hfi hbd e1 e2
  replace hfin := Lib.hid hfin
  replace hdel := Lib.hid hdel
  refine ACall_of' Try.func72 rfl (Ent_of Try.func72 (by kernel_rfl) rfl) (by simp [Try.ntmps72]) ?_; simp only [Try.ntmps72, Try.results72]
  repeat' (first
    | refine AW_seq_kn fun K hK => ?_
    | refine AW_block ?_
    | (refine does_call rfl rfl ?_; simp only [push_cast, seval, *]; refine ACall.mono hours ?_; (rintro _ _ ⟨rfl, e2⟩; have e3 := e2.symm; clear e2; subst e3); (try simp only [push_cast, seval, *]))
    | ((first
      | refine AW_region E0 ?_ | refine AW_ret ?_ | refine AW_exit ?_ | refine AW_skip ?_ | unfold retQ); try simp only [push_cast, seval, *])
    | (apply AW_cond; (case hc => (simp only [push_cast, seval]; rfl)); all_goals (intro hc; first | (exfalso; simp only [push_cast, seval, *] at hc; done) | (exact absurd hc (by decide)) | ((try first | rw [Bool.not_true] at hc | rw [Bool.not_false] at hc); first | (with_reducible replace hc := tTT hc); clear hc | (with_reducible replace hc := tFF hc); clear hc | (have hp := hc; try simp only [decide_eq_true_eq, decide_eq_false_iff_not, bA, bB, bC, bD, bE, bF, bG, bH] at hp))))
    | (refine Kn.go hK ?_; clear hK K)
    | refine Kn.go (by assumption) ?_
    | (intro n hn; (try simp only [upd_none2, join_none_iff, ite_none, ne_eq] at hn); (try simp only [push_cast, seval, *]))
    | (intro hc)
    | fail)
  refine does_call rfl rfl ?_
  simp only [push_cast, seval, *]
  refine ACall.mono (unhid hdel) ?_
  intro r H' ho
  have hrcs := ho.cs
  have hrone := ho.one
  obtain ⟨kn, H2, f1, f2⟩ := unhid hfin r H' ho
  clear ho hdel hfin hours
  replace f1 := Lib.hid f1
  replace f2 := Lib.hid f2
  (try simp only [push_cast, seval, *])
  repeat' (first
    | refine AW_seq_kn fun K hK => ?_
    | refine AW_block ?_
    | ((first
      | refine AW_region E0 ?_ | refine AW_ret ?_ | refine AW_exit ?_ | refine AW_skip ?_ | unfold retQ); try simp only [push_cast, seval, *])
    | (apply AW_cond; (case hc => (simp only [push_cast, seval]; rfl)); all_goals (intro hc; first | (exfalso; simp only [push_cast, seval, *] at hc; done) | (exact absurd hc (by decide)) | ((try first | rw [Bool.not_true] at hc | rw [Bool.not_false] at hc); first | (with_reducible replace hc := tTT hc); clear hc | (with_reducible replace hc := tFF hc); clear hc | (have hp := hc; try simp only [decide_eq_true_eq, decide_eq_false_iff_not, bA, bB, bC, bD, bE, bF, bG, bH] at hp))))
    | (refine Kn.go hK ?_; clear hK K)
    | refine Kn.go (by assumption) ?_
    | (intro n hn; (try simp only [upd_none2, join_none_iff, ite_none, ne_eq] at hn); (try simp only [push_cast, seval, *]))
    | (intro hc)
    | fail)
  exact ⟨_, H2, Weak.less (unhid f1), unhid f2⟩
end Go.Proofs.Ytlbdpnlmdcajbaa
