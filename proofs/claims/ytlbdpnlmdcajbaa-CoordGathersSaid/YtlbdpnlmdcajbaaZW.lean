/- What is gathered: op by op. -/
import Derived.Test.YtlbdpnlmdcajbaaZV
namespace Go.Proofs.Ytlbdpnlmdcajbaa
open Go.RowKit
open Nat renaming reduceEqDiff → nA, reduceLT → nB, reduceLeDiff → nC, reduceAdd → nD, reduceMul → nE, reduceSub → nF, reduceBEq → nG
open Int renaming reduceToNat → iA, reduceLT → iB, reduceLE → iC, reduceEq → iD
open Bool renaming and_eq_true → bA, or_eq_true → bB, or_eq_false_iff → bC, and_eq_false_iff → bD, not_eq_true' → bE, not_eq_false' → bF, not_true → bG, not_false → bH
set_option linter.all false
set_option maxHeartbeats 4000000
attribute [local irreducible] AW Does ACall tE tS tB tZ
set_option maxRecDepth 5000

theorem fndS_nums (l : List Pd) (n : Int) : fndS l n = idxS (fun q : Int => decide (q = n)) (l.map Pd.num) := by
  unfold fndS; rw [← idxS_map]
section
variable {c : Cd} (h : cdOk c = true) (o : Op22)
include h
theorem run_new (hk : kdS o < 2) (he : (runS o c).e = 0) : (runS o c).c.pend = c.pend ++ [⟨(runS o c).number, o.now, o.save, []⟩] := by
  have hnf : ¬ cdOk c = false := by rw [h]; decide
  unfold runS at he ⊢
  simp only [if_pos hk] at he ⊢
  unfold trigR at he ⊢
  rw [if_neg hnf] at he ⊢
  by_cases ht : trigE c o.now = 0
  · simp only [if_pos ht] at he ⊢
    rfl
  · simp only [if_neg ht] at he; exact absurd he ht
theorem run_ack (hf : c.fits) (hk : ¬ kdS o < 2) (hk5 : kdS o < 5) (he : (runS o c).e = 0) : ∃ (i : Nat) (p : Pd), c.pend[i]? = some p ∧ p.num = numO o c ∧ akGo c.tasks (-1) p.acks = true ∧ ackHas p.acks (opAck o).task = false ∧
    (runS o c).c.pend = c.pend.set i { p with acks := putAk p.acks (opAck o) } ∧ (runS o c).all = decide ((p.acks.length : Int) + 1 = c.tasks) ∧ ((missS (runS o c).c (numO o c)).length : Int) = c.tasks - ((p.acks.length : Int) + 1) := by
  have hnf : ¬ cdOk c = false := by rw [h]; decide
  obtain ⟨-, h2⟩ := (cdOk_iff c).1 h
  unfold runS at he ⊢
  simp only [if_neg hk, if_pos hk5] at he ⊢
  unfold ackR at he ⊢
  rw [if_neg hnf] at he ⊢
  by_cases ht : ackE c (numO o c) o.attempt (opAck o) = 0
  · simp only [if_pos ht] at he ⊢
    have hst := ack_ok h hf ht
    generalize numO o c = n at *
    generalize opAck o = a at *
    unfold ackE at ht
    by_cases c1 : ¬ oursE c n o.attempt = 0
    · rw [if_pos c1] at ht; exact absurd ht c1
    rw [if_neg c1] at ht
    by_cases c2 : (decide (0 ≤ a.task) && decide (a.task ≤ c.tasks - 1)) = false
    · rw [if_pos c2] at ht; omega
    rw [if_neg c2] at ht
    by_cases c3 : 3000 < a.bytes.length
    · rw [if_pos c3] at ht; omega
    rw [if_neg c3] at ht
    by_cases c4 : ackHas (pdAt c n).acks a.task = true
    · rw [if_pos c4] at ht; omega
    clear ht he
    simp only [Bool.not_eq_false, Bool.and_eq_true, decide_eq_true_eq] at c2
    obtain ⟨i, hi, hp⟩ := oursE_at (Classical.not_not.1 c1)
    have hac : akGo c.tasks (-1) (pdAt c n).acks = true := pdGo_all c c.pend 0 0 h2 _ (List.mem_of_getElem? hp)
    have hhas : ackHas (pdAt c n).acks a.task = false := by simpa using c4
    have hput := putAk_ok (a := a) (ts := c.tasks) (by omega) (by omega) (by omega) hac hhas
    have e : (ackC c n a).pend = c.pend.set i { pdAt c n with acks := putAk (pdAt c n).acks a } := by
      unfold ackC; rw [hi]; rfl
    refine ⟨i, pdAt c n, hp, fndS_num hi hp, hac, hhas, e, rfl, ?_⟩
    have hlt := (List.getElem?_eq_some_iff.1 hp).1
    have hnum : nums (ackC c n a) = nums c := by
      unfold nums
      rw [e, List.map_set]
      apply List.ext_getElem?
      intro j
      rw [List.getElem?_set]
      by_cases hj : i = j
      · subst hj
        rw [if_pos rfl, if_pos (by rw [List.length_map]; exact hlt), List.getElem?_map, hp]; rfl
      · rw [if_neg hj]
    have hfn : fndS (ackC c n a).pend n = (i : Int) := by
      rw [fndS_nums]; show idxS _ (nums (ackC c n a)) = _; rw [hnum]; show idxS _ (c.pend.map Pd.num) = _; rw [← fndS_nums]; exact hi
    have hpd : pdAt (ackC c n a) n = { pdAt c n with acks := putAk (pdAt c n).acks a } := by
      conv => lhs; unfold pdAt
      rw [hfn, e]
      have : ((i : Int)).toNat = i := by omega
      rw [this, List.getElem?_set, if_pos rfl, if_pos hlt]; rfl
    unfold missS
    rw [if_neg (by rw [hst.ok]; decide), if_neg (by rw [hfn]; omega)]
    unfold missR
    rw [hpd]
    have hts : (ackC c n a).tasks = c.tasks := rfl
    rw [hts]
    have hml := miss_len hput
    rw [putAk_len] at hml
    have h16 := ((headOk_iff c).1 ((cdOk_iff c).1 h).1).2.2.1
    simp only
    omega
  · simp only [if_neg ht] at he; exact absurd he ht
theorem run_old (hk5 : ¬ kdS o < 5) (he : (runS o c).e = 0) : ∀ p ∈ (runS o c).c.pend, p ∈ c.pend := by
  have hnf : ¬ cdOk c = false := by rw [h]; decide
  have hk : ¬ kdS o < 2 := by omega
  unfold runS at he ⊢
  simp only [if_neg hk, if_neg hk5] at he ⊢
  by_cases h6 : kdS o < 6
  · simp only [if_pos h6] at he ⊢
    unfold decR wRes at he ⊢
    rw [if_neg hnf] at he ⊢
    by_cases ht : oursE c (numO o c) o.attempt = 0
    · simp only [if_pos ht] at he ⊢
      exact fun p hp => (List.eraseIdx_sublist _ _).subset hp
    · simp only [if_neg ht] at he; exact absurd he ht
  simp only [if_neg h6] at he ⊢
  by_cases h7 : kdS o < 7
  · simp only [if_pos h7] at he ⊢
    unfold tickR at he ⊢
    rw [if_neg hnf] at he ⊢
    by_cases ht : tickE o.now = 0
    · simp only [if_pos ht] at he ⊢
      exact fun p hp => (List.mem_filter.1 hp).1
    · simp only [if_neg ht] at he; exact absurd he ht
  simp only [if_neg h7] at he ⊢
  by_cases h9 : kdS o < 9
  · simp only [if_pos h9] at he ⊢
    unfold compR at he ⊢
    rw [if_neg hnf] at he ⊢
    by_cases ht : compE c (numO o c) = 0
    · simp only [if_pos ht] at he ⊢
      exact fun p hp => (List.eraseIdx_sublist _ _).subset (List.mem_filter.1 hp).1
    · simp only [if_neg ht] at he; exact absurd he ht
  simp only [if_neg h9] at he ⊢
  unfold restR at he ⊢
  rw [if_neg hnf] at he ⊢
  by_cases ht : restE c o.tasks o.attempt = 0
  · simp only [if_pos ht] at he ⊢
    exact fun p hp => by cases hp
  · simp only [if_neg ht] at he; exact absurd he ht
theorem run_full (hk : kdS o = 7 ∨ kdS o = 8) (he : (runS o c).e = 0) : ∃ p ∈ c.pend, p.num = numO o c ∧ (runS o c).acks = p.acks ∧ (p.acks.length : Int) = c.tasks ∧ ∀ (i : Nat) (x : Ak), p.acks[i]? = some x → x.task = i := by
  have hnf : ¬ cdOk c = false := by rw [h]; decide
  obtain ⟨-, h2⟩ := (cdOk_iff c).1 h
  unfold runS at he ⊢
  simp only [if_neg (show ¬ kdS o < 2 by omega), if_neg (show ¬ kdS o < 5 by omega), if_neg (show ¬ kdS o < 6 by omega), if_neg (show ¬ kdS o < 7 by omega), if_pos (show kdS o < 9 by omega)] at he ⊢
  unfold compR at he ⊢
  rw [if_neg hnf] at he ⊢
  by_cases ht : compE c (numO o c) = 0
  · simp only [if_pos ht] at he ⊢
    have h0 : ¬ fndS c.pend (numO o c) < 0 := fun hl => by unfold compE at ht; rw [if_pos hl] at ht; omega
    have h1 : ¬ ((pdAt c (numO o c)).acks.length : Int) < c.tasks := fun hl => by unfold compE at ht; rw [if_neg h0, if_pos hl] at ht; omega
    obtain ⟨i, hi, hp⟩ := fndS_at h0
    have hac : akGo c.tasks (-1) (pdAt c (numO o c)).acks = true := pdGo_all c c.pend 0 0 h2 _ (List.mem_of_getElem? hp)
    have hl := (akGo_len _ _ _ hac).1
    have h16 := ((headOk_iff c).1 ((cdOk_iff c).1 h).1).2.2.1
    refine ⟨pdAt c (numO o c), List.mem_of_getElem? hp, fndS_num hi hp, rfl, by omega, fun k x hx => ?_⟩
    have := akGo_full hac (by omega) k x hx
    omega
  · simp only [if_neg ht] at he; exact absurd he ht
end
/-- what an op does, told in plain rows -/
theorem ownT.wpp {t : Told} {y ya g : AV} {H' H : Heap} (h : ownT t y ya g H' H) : Weak (.g (t.cl y ya g)) H' (.g (t.cl (.l 4 (t.c.pend.map Pd.av)) (.l 2 (t.acks.map Ak.av)) (.l 1 (t.gone.map iu)))) H := by
  obtain ⟨H1, H2, h1, h2, h3⟩ := h
  refine ((OwnP_wp h1).seq ((OwnL.wp h2).seq (OwnA_wp h3))).weak fun F F' hF ⟨F1, f1, f2, hi, F2, f3, f4, hj, hk⟩ => ?_
  exact Imp.g (Imps.cons (Imp.refl hF _) id (Imps.cons (Imp.refl hF _) id (Imps.cons (Imp.refl hF _) id (Imps.cons (Imp.refl hF _) id (Imps.cons (Imp.refl hF _) id (Imps.cons (hi.up f2) (fun _ => rfl) (Imps.cons (Imp.refl hF _) id (Imps.cons (Imp.refl hF _) id (Imps.cons ((hk.down f3).down f1) (fun _ => rfl) (Imps.cons ((hj.1.up f4).down f1) (fun _ => rfl) (Imps.cons (Imp.refl hF _) id Imps.nil)))))))))))
theorem run_p (o : Op22) (hob : o.ack.bytes.length ≤ maxLen) (c : Cd) (hl : c.pend.length ≤ maxLen) (hfit : c.fits) :
    Pure Try.prog 18 [.g (Op22.av o), .g (Cd.av c)] (.g ((runS o c).cl (.l 4 ((runS o c).c.pend.map Pd.av)) (.l 2 ((runS o c).acks.map Ak.av)) (.l 1 ((runS o c).gone.map iu)))) := fun H =>
  ACall.weak ((run_o o hob c hl hfit H).mono fun r H' ⟨y, ya, g, e, ho⟩ => ⟨_, H, e ▸ ho.wpp, rfl, rfl⟩)
theorem opAck_p (o : Op22) (hl : o.ack.bytes.length ≤ maxLen) : Pure Try.prog 29 [.g (Op22.av o)] (.g (Ak.av (opAck o))) := fun H =>
  ACall.weak ((opAck_o o hl H).mono fun r H' ⟨z, e, ho⟩ => ⟨_, H, e ▸ (OwnL.wp ho).weak fun F F' hF hi => Imp.g (Imps.cons (Imp.refl hF _) id (Imps.cons hi.1 (fun _ => rfl) Imps.nil)), rfl, rfl⟩)
/-- two functions that give rows, known at these arguments -/
noncomputable def addCl {P : Program} (E : Env P) (f : FuncId) (xs0 : List AV) (r : AV) (h : ACall P f xs0 (fun _ => none) (fun r' _ => r' = r)) : Env P :=
  { E with
    cl := fun g bs => @ite _ (g = f ∧ bs = xs0) (Classical.propDecidable _) (some r) (E.cl g bs)
    cl_ok := fun g bs r' hr => by
      by_cases c : g = f ∧ bs = xs0
      · rw [if_pos c] at hr
        obtain ⟨rfl, rfl⟩ := c
        cases hr
        exact h
      · rw [if_neg c] at hr
        exact E.cl_ok g bs r' hr }
theorem addCl_eq {P : Program} (E : Env P) (f : FuncId) (xs0 : List AV) (r : AV) (h) : (addCl E f xs0 r h).eq = E.eq := rfl
theorem addCl_cl {P : Program} (E : Env P) (f : FuncId) (xs0 : List AV) (r : AV) (h) : (addCl E f xs0 r h).cl = fun g bs => @ite _ (g = f ∧ bs = xs0) (Classical.propDecidable _) (some r) (E.cl g bs) := rfl
theorem two_env {f1 f2 : FuncId} {a1 a2 : List AV} {r1 r2 : AV} (h1 : Pure Try.prog f1 a1 r1) (h2 : Pure Try.prog f2 a2 r2) (hne : ¬ f1 = f2) : ∃ E : Env Try.prog, E.eq = eqTab ∧ E.cl f1 a1 = some r1 ∧ E.cl f2 a2 = some r2 := by
  refine ⟨addCl (addCl E0 f1 a1 r1 ((h1 _).mono fun r H h => h.1)) f2 a2 r2 ((h2 _).mono fun r H h => h.1), rfl, ?_, ?_⟩
  · exact (if_neg (fun h => hne h.1)).trans (if_pos ⟨rfl, rfl⟩)
  · exact if_pos ⟨rfl, rfl⟩
theorem eqnilm_run {P : Program} {t kt et : TypeId} {b : Nat} (hU : P.underlying t = some (.map kt et)) (w : World) : (Op.equal t (.map (some b)) (.map none)).run P w = .ok false w := by
  show (Op.equalIn (9999 + 1) t (.map (some b)) (.map none)).run P w = _
  unfold Op.equalIn
  simp only [Sem.run_bind, run_underlying hU]
  rfl
theorem does_isnil_m {P : Program} {o : Oper} {a : Nat → AV} {H : Heap} {K : AV → Heap → Prop} {t t' kt et : TypeId} {x y : Operand} {b : Nat} (ho : o.op = .binOp .eql t x y t') (hx : ev a x = .c (.map (some b))) (hy : ev a y = .c (.map none)) (hU : P.underlying t = some (.map kt et))
    (h : K (.c (.bool false)) H) : Does P o a H K :=
  Does.val (fun c => by simp [ho]) h fun F w act hv hs => ⟨_, by
      have hg : eqGuard .eql t x y (.map (some b)) (.map none) = pure () := by rfl
      rw [show execOp act.eval o = (do pure (.value (← (do eqGuard .eql t x y (.map (some b)) (.map none); binOp .eql t (.map (some b)) (.map none))))) by simp [execOp, ho, hv.c hx, hv.c hy], hg]
      rw [show binOp .eql t (.map (some b)) (.map none) = (do pure (.bool (← Op.equal t (.map (some b)) (.map none)))) from rfl]
      simp [Sem.run_bind, eqnilm_run hU], .c _⟩
theorem binV_mapnil (P : Program) (t : TypeId) (r : Option Nat) : binV P .eql t (.c (.map r)) (.c (.map none)) = none := by
  unfold binV; rfl
attribute [push_cast] binV_mapnil
theorem find_at {acks : List Ak} (h : ∀ (i : Nat) (x : Ak), acks[i]? = some x → x.task = i) {k : Nat} {x : Ak} (hx : acks[k]? = some x) : acks.find? (fun a => decide (a.task = (k : Int))) = some x := by
  cases hf : acks.find? (fun a => decide (a.task = (k : Int))) with
  | none =>
    rw [List.find?_eq_none] at hf
    have := hf x (List.mem_of_getElem? hx)
    simp only [decide_eq_true_eq] at this
    exact absurd (h k x hx) this
  | some y =>
    have h1 := List.find?_some hf
    simp only [decide_eq_true_eq] at h1
    obtain ⟨j, hj⟩ := List.getElem?_of_mem (List.mem_of_find?_eq_some hf)
    have h2 := h j y hj
    have : j = k := by omega
    subst this
    rw [hj] at hx; exact hx
end Go.Proofs.Ytlbdpnlmdcajbaa
