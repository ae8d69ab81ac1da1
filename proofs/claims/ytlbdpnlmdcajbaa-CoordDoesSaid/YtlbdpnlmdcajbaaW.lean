/- A checkpoint is completed. -/
import Derived.Test.YtlbdpnlmdcajbaaV
namespace Go.Proofs.Ytlbdpnlmdcajbaa
open Go.RowKit
open Nat renaming reduceEqDiff → nA, reduceLT → nB, reduceLeDiff → nC, reduceAdd → nD, reduceMul → nE, reduceSub → nF, reduceBEq → nG
open Int renaming reduceToNat → iA, reduceLT → iB, reduceLE → iC, reduceEq → iD
open Bool renaming and_eq_true → bA, or_eq_true → bB, or_eq_false_iff → bC, and_eq_false_iff → bD, not_eq_true' → bE, not_eq_false' → bF, not_true → bG, not_false → bH
set_option linter.all false
set_option maxHeartbeats 4000000
attribute [local irreducible] AW Does ACall tE tS tB tZ
def dLW0 : List En := [(0, false, []), (1, false, []), (2, false, []), (3, false, []), (4, false, []), (5, false, []), (6, false, []), (7, false, []), (8, false, []), (9, false, []), (10, false, []), (11, false, []), (12, false, []), (13, false, []), (14, false, [])]
def dAW0 : List (List Nat) := [[], [0], [0, 1], [0, 1, 2], [], [0, 1, 2, 3, 4], [0, 1, 2, 3, 4, 5], [0, 1, 2, 3, 4, 5, 6], [0, 1, 2, 3, 4, 5, 6, 7], [], [9], [9, 10], [9, 10, 11], [0, 1, 2, 3, 4, 5, 6, 7, 8, 9, 10, 11, 12], [0, 1, 2, 3, 4, 5, 6, 7, 8, 9, 10, 11, 12, 13]]
attribute [push_cast] dLW0
set_option maxRecDepth 5000

abbrev al (y : AV) : Blk := .r 50 1 1 [[y]]
def compE (c : Cd) (n : Int) : Int := if fndS c.pend n < 0 then 4 else if ((pdAt c n).acks.length : Int) < c.tasks then 322 else 0
def rest22 (c : Cd) (n : Int) : List Pd := c.pend.eraseIdx (fndS c.pend n).toNat
def ltP (n : Int) (p : Pd) : Bool := decide (p.num < n)
def compC (c : Cd) (n : Int) : Cd := { c with pend := (rest22 c n).filter fun p => !ltP n p }
theorem comp11_a (n : Int) (y : AV) (p : Pd) (hy : y.cs = some [y]) (m1 : Nat) (A : Heap) (h1 : A m1 = some (.r 25 1 1 [[.c (.int .u64 n)]])) :
    ACall Try.prog 71 ([.g (encP (y, p))] ++ [.p m1 1 0 0]) A fun r A' => r = .c (.bool (ltP n p)) ∧ A' = A := by
  have o1 := ne_old h1
  obtain ⟨num, bg, sv, ac⟩ := p
  simp only [encP, List.cons_append, List.nil_append, ltP]
  refine ACall_of' Try.func71 rfl (Ent_of Try.func71 (by kernel_rfl) rfl) (by simp [Try.ntmps71]) ?_; simp only [Try.ntmps71, Try.results71]
  repeat' (first
    | refine AW_seq_kn fun K hK => ?_
    | refine AW_block ?_
    | ((first
      | refine AW_region E0 ?_ | refine AW_ret ?_ | refine AW_exit ?_ | refine AW_skip ?_ | unfold retQ); try simp only [push_cast, seval, *])
    | (apply AW_cond; (case hc => (simp only [push_cast, seval]; rfl)); all_goals (intro hc; first | (exfalso; simp only [push_cast, seval, *] at hc; done) | (exact absurd hc (by decide)) | ((try first | rw [Bool.not_true] at hc | rw [Bool.not_false] at hc); first | (with_reducible replace hc := tTT hc); clear hc | (with_reducible replace hc := tFF hc); clear hc | (have hp := hc; try simp only [decide_eq_true_eq, decide_eq_false_iff_not, bA, bB, bC, bD, bE, bF, bG, bH] at hp))))
    | (refine Kn.go hK ?_; clear hK K)
    | refine Kn.go (by assumption) ?_
    | (intro n hn; (try simp only [upd_none2, join_none_iff, ite_none, ne_eq] at hn); (try simp only [push_cast, seval, *]))
    | (intro hc)
    | fail)
  exact ⟨_, _, Weak.less (by (simp only [push_cast, seval, *])), rfl, rfl⟩
theorem fndS_at {c : Cd} {n : Int} (h : ¬ fndS c.pend n < 0) : ∃ i : Nat, fndS c.pend n = (i : Int) ∧ c.pend[i]? = some (pdAt c n) := by
  rcases idxS_cases (fun p : Pd => decide (p.num = n)) c.pend with ⟨e, -⟩ | ⟨i, p, e, hp, -⟩
  · unfold fndS at h; omega
  · refine ⟨i, e, ?_⟩
    unfold pdAt; unfold fndS at *; rw [e]; simp only [Int.toNat_natCast]; rw [hp]; rfl
theorem comp1_a (c : Cd) (hok : cdOk c = true) (nm : Int) (x : AV) (A : Heap) (nb : Nat) (G : Heap) (hnb : G nb = none) (m1 m2 m3 : Nat) (h12 : ¬ m1 = m2) (h13 : ¬ m1 = m3) (h23 : ¬ m2 = m3) (h1 : G m1 = some (.r 25 1 1 [[.c (.int .u64 nm)]])) (h2 : G m2 = some (al (.c (.slice none 0 0)))) (h3 : G m3 = some (gl (.c (.slice none 0 0)))) (h : OwnP x c.pend A (upd G nb (bxC c x))) :
    ACall Try.prog 68 ([.p nb 6 0 0] ++ [.p m1 1 0 0, .p m2 1 0 0, .p m3 1 0 0]) A fun r A' => r = .c (.int .i64 (compE c nm)) ∧ ((compE c nm = 0 ∧ ∃ x' G', (∃ y g G1, OwnL G' g 25 1 (((rest22 c nm).filter (ltP nm)).map fun p => iu p.num) G1 ∧ OwnA y (pdAt c nm).acks G1 (upd (upd G m2 (al y)) m3 (gl g))) ∧ G' nb = none ∧ OwnP x' (compC c nm).pend A' (upd G' nb (bxC (compC c nm) x'))) ∨ (¬ compE c nm = 0 ∧ ∃ G', G' = G ∧ Heap.le G' A')) := by
  have hne : ∀ m b, G m = some b → ¬ m = nb := fun m b hm => by rintro rfl; rw [hm] at hnb; cases hnb
  have b1 := hne _ _ h1
  have b2 := hne _ _ h2
  have b3 := hne _ _ h3
  have b1' : ¬ nb = m1 := fun e => b1 e.symm
  have b2' : ¬ nb = m2 := fun e => b2 e.symm
  have b3' : ¬ nb = m3 := fun e => b3 e.symm
  have h21 : ¬ m2 = m1 := fun e => h12 e.symm
  have h31 : ¬ m3 = m1 := fun e => h13 e.symm
  have h32 : ¬ m3 = m2 := fun e => h23 e.symm
  have kb := (OwnP_loc x c.pend).get h (upd_same _ _ _)
  have k1 := (OwnP_loc x c.pend).get h (m := m1) (by rw [upd_ne b1]; exact h1)
  have k2 := (OwnP_loc x c.pend).get h (m := m2) (by rw [upd_ne b2]; exact h2)
  have k3 := (OwnP_loc x c.pend).get h (m := m3) (by rw [upd_ne b3]; exact h3)
  have hle : Heap.le G A := Heap.le_trans (le_upd_new hnb) ((OwnP_loc x c.pend).le h)
  obtain ⟨hl2, hbd⟩ := cdOk_bd hok
  have hfnd := find_o x c.pend (by omega) c nb A _ h (upd_same _ _ _) nm
  have hE : compE c nm = if fndS c.pend nm < 0 then 4 else if ((pdAt c nm).acks.length : Int) < c.tasks then 322 else 0 := rfl
  generalize compE c nm = E at *
  obtain ⟨Q, hQ⟩ : ∃ Q : AV → Heap → Prop, Q = fun r A' => r = .c (.int .i64 E) ∧ ((E = 0 ∧ ∃ x' G', (∃ y g G1, OwnL G' g 25 1 (((rest22 c nm).filter (ltP nm)).map fun p => iu p.num) G1 ∧ OwnA y (pdAt c nm).acks G1 (upd (upd G m2 (al y)) m3 (gl g))) ∧ G' nb = none ∧ OwnP x' (compC c nm).pend A' (upd G' nb (bxC (compC c nm) x'))) ∨ (¬ E = 0 ∧ ∃ G', G' = G ∧ Heap.le G' A')) := ⟨_, rfl⟩
  rw [← hQ]
  have hbad : ¬ E = 0 → Q (.c (.int .i64 E)) A := fun he => by rw [hQ]; exact ⟨rfl, .inr ⟨he, G, rfl, hle⟩⟩
  have hgood : E = 0 → ∀ x' G' A', (∃ y g G1, OwnL G' g 25 1 (((rest22 c nm).filter (ltP nm)).map fun p => iu p.num) G1 ∧ OwnA y (pdAt c nm).acks G1 (upd (upd G m2 (al y)) m3 (gl g))) → G' nb = none → OwnP x' ((rest22 c nm).filter fun p => !ltP nm p) A' (upd G' nb (bxC c x')) → Q (.c (.int .i64 0)) A' := fun he x' G' A' q1 q2 q3 => by rw [hQ]; subst he; exact ⟨rfl, .inl ⟨rfl, x', G', q1, q2, q3⟩⟩
  clear hQ hle hne hok
  by_cases hf0 : fndS c.pend nm < 0
  · rw [if_pos hf0] at hE
    subst hE
    clear hgood h
    simp only [bxC, Cd.cl, List.cons_append, List.nil_append] at kb ⊢
    replace hbad := Lib.hid hbad
    refine ACall_of' Try.func68 rfl (Ent_of Try.func68 (by kernel_rfl) rfl) (by simp [Try.ntmps68]) ?_; simp only [Try.ntmps68, Try.results68]
    repeat' (first
    | refine AW_seq_kn fun K hK => ?_
    | refine AW_block ?_
    | (refine does_call rfl rfl ?_; simp only [push_cast, seval, *]; refine ACall.mono hfnd ?_; (rintro _ _ ⟨rfl, e2⟩; have e3 := e2.symm; clear e2; subst e3); (try simp only [push_cast, seval, *]))
    | ((first
      | refine AW_region_draw (id := 4) E0 (fun f => [].contains f) dLW0 dAW0 mixed (by kernel_rfl) ?_
      | refine AW_region E0 ?_ | refine AW_ret ?_ | refine AW_exit ?_ | refine AW_skip ?_ | unfold retQ); try simp only [push_cast, seval, *])
    | (apply AW_cond; (case hc => (simp only [push_cast, seval]; rfl)); all_goals (intro hc; first | (exfalso; simp only [push_cast, seval, *] at hc; done) | (exact absurd hc (by decide)) | ((try first | rw [Bool.not_true] at hc | rw [Bool.not_false] at hc); first | (with_reducible replace hc := tTT hc); clear hc | (with_reducible replace hc := tFF hc); clear hc | (have hp := hc; try simp only [decide_eq_true_eq, decide_eq_false_iff_not, bA, bB, bC, bD, bE, bF, bG, bH] at hp))))
    | (refine Kn.go hK ?_; clear hK K)
    | refine Kn.go (by assumption) ?_
    | (intro n hn; (try simp only [upd_none2, join_none_iff, ite_none, ne_eq] at hn); (try simp only [push_cast, seval, *]))
    | (intro hc)
    | fail)
    exact ⟨_, _, Weak.refl _ _, unhid hbad (by decide)⟩
  rw [if_neg hf0] at hE
  obtain ⟨i, hfi, hpi⟩ := fndS_at hf0
  have hil := (List.getElem?_eq_some_iff.1 hpi).1
  have hiI : (i : Int) < c.pend.length := by omega
  have hi0 : ¬ (i : Int) < 0 := by omega
  unfold rest22 at hgood
  rw [hfi] at hfnd hgood
  simp only [Int.toNat_natCast] at hgood
  clear hf0 hfi
  generalize pdAt c nm = p at *
  obtain ⟨L, y, A1, A2, hLl, hiL, hRi, o1, o2, o3, e1, e2⟩ := h.dels hpi
  have hycs := o2.cs
  have hyone := o2.one
  have hylen := o2.len
  have hRl : (L.map encP).length = c.pend.length := by rw [← hLl]; simp
  have hsp : ∃ np cap, x = .s np 4 0 c.pend.length cap ∧ A np = some (.r 61 4 cap (L.map encP)) := by
    rcases o1.split with ⟨ad, -, e, -⟩ | ⟨np, cap, rfl, rfl, hnp⟩
    · rw [e] at hRi; simp at hRi
    · exact ⟨np, cap, by rw [hRl], upd_same _ _ _⟩
  obtain ⟨np, cap, rfl, knp⟩ := hsp
  clear h
  by_cases hac : (p.acks.length : Int) < c.tasks
  · rw [if_pos hac] at hE
    subst hE
    clear hgood o1 o2 o3
    obtain ⟨num, bg, sv, ac⟩ := p
    simp only [encP] at hRi
    simp only at hac hylen
    simp only [bxC, Cd.cl, List.cons_append, List.nil_append] at kb ⊢
    replace hbad := Lib.hid hbad
    generalize L.map encP = RR at *
    clear hLl hpi e1 e2
    refine ACall_of' Try.func68 rfl (Ent_of Try.func68 (by kernel_rfl) rfl) (by simp [Try.ntmps68]) ?_; simp only [Try.ntmps68, Try.results68]
    repeat' (first
    | refine AW_seq_kn fun K hK => ?_
    | refine AW_block ?_
    | (refine does_call rfl rfl ?_; simp only [push_cast, seval, *]; refine ACall.mono hfnd ?_; (rintro _ _ ⟨rfl, e2⟩; have e3 := e2.symm; clear e2; subst e3); (try simp only [push_cast, seval, *]))
    | ((first
      | refine AW_region_draw (id := 4) E0 (fun f => [].contains f) dLW0 dAW0 mixed (by kernel_rfl) ?_
      | refine AW_region E0 ?_ | refine AW_ret ?_ | refine AW_exit ?_ | refine AW_skip ?_ | unfold retQ); try simp only [push_cast, seval, *])
    | (apply AW_cond; (case hc => (simp only [push_cast, seval]; rfl)); all_goals (intro hc; first | (exfalso; simp only [push_cast, seval, *] at hc; done) | (exact absurd hc (by decide)) | ((try first | rw [Bool.not_true] at hc | rw [Bool.not_false] at hc); first | (with_reducible replace hc := tTT hc); clear hc | (with_reducible replace hc := tFF hc); clear hc | (have hp := hc; try simp only [decide_eq_true_eq, decide_eq_false_iff_not, bA, bB, bC, bD, bE, bF, bG, bH] at hp))))
    | (refine Kn.go hK ?_; clear hK K)
    | refine Kn.go (by assumption) ?_
    | (intro n hn; (try simp only [upd_none2, join_none_iff, ite_none, ne_eq] at hn); (try simp only [push_cast, seval, *]))
    | (intro hc)
    | fail)
    exact ⟨_, _, Weak.refl _ _, unhid hbad (by decide)⟩
  rw [if_neg hac] at hE
  subst hE
  have ea : (upd G nb (bxC c (.s np 4 0 c.pend.length cap))) m2 = some (al (.c (.slice none 0 0))) := by rw [upd_ne b2]; exact h2
  have ea2 := (Loc.chain RP_loc _).get o3 ea
  have ea1 := (OwnA_loc y _).get o2 ea2
  have t1 := o1.turn ea1 (al y)
  have u1 := (OwnA_loc y _).turn o2 ea2 (al y)
  have v1 := (Loc.chain RP_loc _).turn o3 ea (al y)
  have hdel := pdel_o t1 (i := i) (j := i + 1) (by omega) (by rw [List.length_map]; omega)
  rw [e1] at hdel
  have hiw : IntKind.i64.wrap ((i : Int) + 1) = ((i + 1 : Nat) : Int) := by rw [wrap_i64 (by omega) (by omega)]; omega
  have hpl : (c.pend.eraseIdx i).length ≤ 100 := by rw [List.length_eraseIdx]; split <;> omega
  have hstep : ∀ r H', OwnL H' r 61 4 ((L.eraseIdx i).map encP) (upd A1 m2 (al y)) → H' nb = some (bxC c (.s np 4 0 c.pend.length cap)) ∧ H' m1 = some (.r 25 1 1 [[.c (.int .u64 nm)]]) ∧
      ACall Try.prog 70 [.p nb 6 0 0, .f (.func 71) [] [.p m1 1 0 0]] (upd H' nb (bxC c r)) fun g H'' => ∃ x' H5, g.cs = some [g] ∧ g.one = true ∧ H'' m3 = some (gl (.c (.slice none 0 0))) ∧ ∃ Hf', Heap.le Hf' (upd H'' m3 (gl g)) ∧ Q (.c (.int .i64 0)) Hf' := fun r H' ho => by
    have eb : (upd (upd G nb (bxC c (.s np 4 0 c.pend.length cap))) m2 (al y)) nb = some (bxC c (.s np 4 0 c.pend.length cap)) := by rw [upd_ne b2', upd_same]
    have eb2 := (Loc.chain RP_loc _).get v1 eb
    have eb1 := (OwnA_loc y _).get u1 eb2
    have em : (upd (upd G nb (bxC c (.s np 4 0 c.pend.length cap))) m2 (al y)) m1 = some (.r 25 1 1 [[.c (.int .u64 nm)]]) := by rw [upd_ne h12, upd_ne b1]; exact h1
    refine ⟨(Loc.own _ _ _ _).get ho eb1, (Loc.own _ _ _ _).get ho ((OwnA_loc y _).get u1 ((Loc.chain RP_loc _).get v1 em)), ?_⟩
    have t2 := (Loc.own r 61 4 _).turn ho eb1 (bxC c r)
    have u2 := (OwnA_loc y _).turn u1 eb2 (bxC c r)
    have v2 := (Loc.chain RP_loc _).turn v1 eb (bxC c r)
    obtain ⟨H3, s1, s2⟩ := (Loc.own r 61 4 _).swap (OwnA_loc y _) t2 u2
    have hP3 : OwnP r (c.pend.eraseIdx i) H3 _ := ⟨L.eraseIdx i, e2, _, s2, v2⟩
    obtain ⟨H4, r1, r2⟩ := (OwnA_loc y _).swap (OwnP_loc r _) s1 hP3
    have kn4 := (OwnA_loc y _).get r2 (upd_same _ _ _)
    have km4 := (OwnA_loc y _).get r2 (m := m1) (by rw [upd_ne b1]; exact em)
    refine (drop_o r (c.pend.eraseIdx i) _ H4 nb c hpl r1 kn4 (ltP nm) 71 [.p m1 1 0 0] (fun y p hp hy Gx hG => comp11_a nm y p hy m1 Gx (hG _ _ km4))).mono ?_
    rintro g H'' ⟨x', H5, q1, q2⟩
    have w1 := (OwnA_loc y _).turn r2 (upd_same _ _ _) (bxC c x')
    rw [upd_upd] at w1
    have e3 : (upd (upd (upd G nb (bxC c (.s np 4 0 c.pend.length cap))) m2 (al y)) nb (bxC c x')) m3 = some (gl (.c (.slice none 0 0))) := by rw [upd_ne b3, upd_ne h32, upd_ne b3]; exact h3
    have e4 := (OwnA_loc y _).get w1 e3
    have e5 := (OwnP_loc x' _).get q2 e4
    have w2 := (OwnA_loc y _).turn w1 e3 (gl g)
    have q3 := (OwnP_loc x' _).turn q2 e4 (gl g)
    have q4 := (Loc.own g 25 1 _).turn q1 e5 (gl g)
    obtain ⟨H6, z1, z2⟩ := (OwnP_loc x' _).swap (OwnA_loc y _) q3 w2
    obtain ⟨Hf', G', f1, ⟨G1, f2, f2'⟩, f3, f4⟩ := post_fin ((Loc.own g 25 1 (((c.pend.eraseIdx i).filter (ltP nm)).map fun p => iu p.num)).comp (OwnA_loc y p.acks)) (nb := nb) (bx := bxC c x') (Gm := upd (upd G m2 (al y)) m3 (gl g)) ⟨_, q4, z1⟩ z2 (fun q b hq => by
      by_cases c1 : q = nb
      · subst c1; rw [upd_same] at hq; rw [upd_ne b3', upd_same]; exact hq
      · rw [upd_ne c1] at hq
        by_cases c2 : q = m3
        · subst c2; rw [upd_same] at hq ⊢; exact hq
        · rw [upd_ne c2] at hq ⊢
          rw [upd_ne c1]
          by_cases c3 : q = m2
          · subst c3; rw [upd_same] at hq ⊢; exact hq
          · rw [upd_ne c3] at hq ⊢; rw [upd_ne c1]; exact hq) (by rw [upd_ne b3', upd_ne b2']; exact hnb)
    exact ⟨x', H5, q1.cs, q1.one, (Loc.own g 25 1 _).get q1 e5, Hf', f1, hgood rfl x' G' Hf' ⟨y, g, G1, f2, f2'⟩ f3 f4⟩
  clear hbad hgood o1 o2 o3 ea ea2 ea1 t1 u1 v1 hLl hpi e1 e2 h1 h2 h3 hnb hpl hbd hl2
  obtain ⟨num, bg, sv, ac⟩ := p
  simp only [encP] at hRi
  simp only at hac hylen
  simp only [bxC, Cd.cl, List.cons_append, List.nil_append, al, gl] at kb k2 k3 hdel hstep ⊢
  push_cast at hdel hiw
  replace hdel := Lib.hid hdel
  replace hstep := Lib.hid hstep
  generalize L.map encP = RR at *
  generalize (L.eraseIdx i).map encP = RR2 at *
  refine ACall_of' Try.func68 rfl (Ent_of Try.func68 (by kernel_rfl) rfl) (by simp [Try.ntmps68]) ?_; simp only [Try.ntmps68, Try.results68]
  repeat' (first
    | refine AW_seq_kn fun K hK => ?_
    | refine AW_block ?_
    | (refine does_call rfl rfl ?_; simp only [push_cast, seval, *]; refine ACall.mono hfnd ?_; (rintro _ _ ⟨rfl, e2⟩; have e3 := e2.symm; clear e2; subst e3); (try simp only [push_cast, seval, *]))
    | ((first
      | refine AW_region_draw (id := 4) E0 (fun f => [].contains f) dLW0 dAW0 mixed (by kernel_rfl) ?_
      | refine AW_region E0 ?_ | refine AW_ret ?_ | refine AW_exit ?_ | refine AW_skip ?_ | unfold retQ); try simp only [push_cast, seval, *])
    | (apply AW_cond; (case hc => (simp only [push_cast, seval]; rfl)); all_goals (intro hc; first | (exfalso; simp only [push_cast, seval, *] at hc; done) | (exact absurd hc (by decide)) | ((try first | rw [Bool.not_true] at hc | rw [Bool.not_false] at hc); first | (with_reducible replace hc := tTT hc); clear hc | (with_reducible replace hc := tFF hc); clear hc | (have hp := hc; try simp only [decide_eq_true_eq, decide_eq_false_iff_not, bA, bB, bC, bD, bE, bF, bG, bH] at hp))))
    | (refine Kn.go hK ?_; clear hK K)
    | refine Kn.go (by assumption) ?_
    | (intro n hn; (try simp only [upd_none2, join_none_iff, ite_none, ne_eq] at hn); (try simp only [push_cast, seval, *]))
    | (intro hc)
    | fail)
  refine does_call rfl rfl ?_
  simp only [push_cast, seval, *]
  refine ACall.mono (unhid hdel) ?_
  intro r H' ho
  have hrcs := ho.cs
  have hrone := ho.one
  obtain ⟨kn, km, hdr⟩ := unhid hstep r H' ho
  replace hdr := Lib.hid hdr
  clear ho hdel hstep hfnd kb k1 k2 k3 knp
  (try simp only [push_cast, seval, *])
  repeat' (first
    | refine AW_seq_kn fun K hK => ?_
    | refine AW_block ?_
    | ((first
      | refine AW_region_draw (id := 4) E0 (fun f => [].contains f) dLW0 dAW0 mixed (by kernel_rfl) ?_
      | refine AW_region E0 ?_ | refine AW_ret ?_ | refine AW_exit ?_ | refine AW_skip ?_ | unfold retQ); try simp only [push_cast, seval, *])
    | (apply AW_cond; (case hc => (simp only [push_cast, seval]; rfl)); all_goals (intro hc; first | (exfalso; simp only [push_cast, seval, *] at hc; done) | (exact absurd hc (by decide)) | ((try first | rw [Bool.not_true] at hc | rw [Bool.not_false] at hc); first | (with_reducible replace hc := tTT hc); clear hc | (with_reducible replace hc := tFF hc); clear hc | (have hp := hc; try simp only [decide_eq_true_eq, decide_eq_false_iff_not, bA, bB, bC, bD, bE, bF, bG, bH] at hp))))
    | (refine Kn.go hK ?_; clear hK K)
    | refine Kn.go (by assumption) ?_
    | (intro n hn; (try simp only [upd_none2, join_none_iff, ite_none, ne_eq] at hn); (try simp only [push_cast, seval, *]))
    | (intro hc)
    | fail)
  refine does_call rfl rfl ?_
  simp only [push_cast, seval, *]
  refine ACall.mono (unhid hdr) ?_
  rintro g H'' ⟨x', H5, hgcs, hgone, km3, Hf', f1, f2⟩
  replace f1 := Lib.hid f1
  replace f2 := Lib.hid f2
  clear hdr
  (try simp only [push_cast, seval, *])
  repeat' (first
    | refine AW_seq_kn fun K hK => ?_
    | refine AW_block ?_
    | ((first
      | refine AW_region_draw (id := 4) E0 (fun f => [].contains f) dLW0 dAW0 mixed (by kernel_rfl) ?_
      | refine AW_region E0 ?_ | refine AW_ret ?_ | refine AW_exit ?_ | refine AW_skip ?_ | unfold retQ); try simp only [push_cast, seval, *])
    | (apply AW_cond; (case hc => (simp only [push_cast, seval]; rfl)); all_goals (intro hc; first | (exfalso; simp only [push_cast, seval, *] at hc; done) | (exact absurd hc (by decide)) | ((try first | rw [Bool.not_true] at hc | rw [Bool.not_false] at hc); first | (with_reducible replace hc := tTT hc); clear hc | (with_reducible replace hc := tFF hc); clear hc | (have hp := hc; try simp only [decide_eq_true_eq, decide_eq_false_iff_not, bA, bB, bC, bD, bE, bF, bG, bH] at hp))))
    | (refine Kn.go hK ?_; clear hK K)
    | refine Kn.go (by assumption) ?_
    | (intro n hn; (try simp only [upd_none2, join_none_iff, ite_none, ne_eq] at hn); (try simp only [push_cast, seval, *]))
    | (intro hc)
    | fail)
  exact ⟨_, Hf', Weak.less (unhid f1), unhid f2⟩
end Go.Proofs.Ytlbdpnlmdcajbaa
