/- An ack is taken. -/
import Derived.Test.YtlbdpnlmdcajbaaM
namespace Go.Proofs.Ytlbdpnlmdcajbaa
open Go.RowKit
open Nat renaming reduceEqDiff → nA, reduceLT → nB, reduceLeDiff → nC, reduceAdd → nD, reduceMul → nE, reduceSub → nF, reduceBEq → nG
open Int renaming reduceToNat → iA, reduceLT → iB, reduceLE → iC, reduceEq → iD
open Bool renaming and_eq_true → bA, or_eq_true → bB, or_eq_false_iff → bC, and_eq_false_iff → bD, not_eq_true' → bE, not_eq_false' → bF, not_true → bG, not_false → bH
set_option linter.all false
set_option maxHeartbeats 4000000
attribute [local irreducible] AW Does ACall tE tS tB tZ
def dLN0 : List En := [(0, false, []), (1, false, []), (2, false, []), (3, false, []), (4, false, []), (5, false, []), (6, false, []), (7, false, []), (8, false, []), (9, false, [])]
def dAN0 : List (List Nat) := [[], [0], [], [2], [2, 3], [2, 3, 4], [2, 3, 4, 5], [0, 1, 2, 3, 4, 5, 6], [0, 1, 2, 3, 4, 5, 6, 7], [0, 1, 2, 3, 4, 5, 6, 7, 8]]
attribute [push_cast] dLN0
def dLN1 : List En := [(0, false, []), (1, false, []), (2, false, []), (3, false, []), (4, false, []), (5, false, []), (6, false, []), (7, false, []), (8, false, []), (9, false, []), (10, false, []), (11, false, [])]
def dAN1 : List (List Nat) := [[], [0], [0, 1], [0, 1, 2], [], [4], [0, 1, 2, 3, 4, 5], [0, 1, 2, 3, 4, 5, 6], [0, 1, 2, 3, 4, 5, 6, 7], [0, 1, 2, 3, 4, 5, 6, 7], [0, 1, 2, 3, 4, 5, 6, 7, 8], [0, 1, 2, 3, 4, 5, 6, 7, 8, 9, 10]]
attribute [push_cast] dLN1
def dLN2 : List En := [(0, false, []), (1, false, []), (2, false, []), (3, false, []), (4, true, []), (5, false, []), (6, false, []), (7, true, []), (8, false, []), (9, false, []), (10, false, [4, 7]), (11, false, []), (12, false, []), (13, false, []), (14, false, []), (15, false, []), (16, false, [])]
def dAN2 : List (List Nat) := [[], [], [1], [1, 2], [1, 2, 3], [], [], [6], [], [8], [8, 9], [6, 7, 8, 9, 10], [6, 7, 8, 9, 10, 11], [1, 2, 3, 4, 5, 6, 7, 8, 9, 10, 11, 12], [0, 1, 2, 3, 4, 5, 6, 7, 8, 9, 10, 11, 12, 13], [0, 1, 2, 3, 4, 5, 6, 7, 8, 9, 10, 11, 12, 13, 14], [0, 1, 2, 3, 4, 5, 6, 7, 8, 9, 10, 11, 12, 13, 14, 15]]
attribute [push_cast] dLN2
def dLN3 : List En := [(0, false, []), (1, false, []), (2, false, []), (3, false, []), (4, false, []), (5, false, []), (6, false, []), (7, false, []), (8, false, []), (9, false, []), (10, false, [])]
def dAN3 : List (List Nat) := [[], [0], [0, 1], [0, 1, 2], [0, 1, 2, 3], [], [5], [5, 6], [5, 6, 7], [0, 1, 2, 3, 4, 5, 6, 7, 8], [0, 1, 2, 3, 4, 5, 6, 7, 8, 9]]
attribute [push_cast] dLN3
set_option maxRecDepth 5000

def zeroP : Pd := ⟨0, 0, false, []⟩
def pdAt (c : Cd) (n : Int) : Pd := (c.pend[(fndS c.pend n).toNat]?).getD zeroP
def ackE (c : Cd) (n at_ : Int) (a : Ak) : Int := if ¬ oursE c n at_ = 0 then oursE c n at_ else if (decide (0 ≤ a.task) && decide (a.task ≤ c.tasks - 1)) = false then 2 else if 3000 < a.bytes.length then 3 else if ackHas (pdAt c n).acks a.task = true then 5 else 0
def putAk (l : List Ak) (a : Ak) : List Ak := l.take (ackK l a.task) ++ [a] ++ l.drop (ackK l a.task)
def ackC (c : Cd) (n : Int) (a : Ak) : Cd := { c with pend := c.pend.set (fndS c.pend n).toNat { pdAt c n with acks := putAk (pdAt c n).acks a } }
def ackAll (c : Cd) (n : Int) : Bool := decide (((pdAt c n).acks.length : Int) + 1 = c.tasks)
theorem oursE_at {c : Cd} {n at_ : Int} (h : oursE c n at_ = 0) : ∃ i : Nat, fndS c.pend n = (i : Int) ∧ c.pend[i]? = some (pdAt c n) := by
  have hn : ¬ fndS c.pend n < 0 := fun hlt => by
    unfold oursE at h; rw [if_pos hlt] at h
    split at h
    · split at h <;> omega
    · omega
  rcases idxS_cases (fun p : Pd => decide (p.num = n)) c.pend with ⟨e, -⟩ | ⟨i, p, e, hp, -⟩
  · unfold fndS at hn; omega
  · refine ⟨i, e, ?_⟩
    unfold pdAt; unfold fndS at *; rw [e]; simp only [Int.toNat_natCast]; rw [hp]; rfl
theorem acked1_a (c : Cd) (hok : cdOk c = true) (n at_ : Int) (a : Ak) (hab : a.bytes.length ≤ maxLen) (x : AV) (A : Heap) (nb : Nat) (G : Heap) (hnb : G nb = none) (m1 m2 m3 m4 : Nat) (h1 : G m1 = some (.r 25 1 1 [[.c (.int .u64 n)]])) (h2 : G m2 = some (.r 3 1 1 [[.c (.int .i64 at_)]])) (h3 : G m3 = some (.r 47 2 1 [Ak.av a])) (h4 : G m4 = some (.r 4 1 1 [[.c (.bool false)]])) (h : OwnP x c.pend A (upd G nb (bxC c x))) :
    ACall Try.prog 62 ([.p nb 6 0 0] ++ [.p m1 1 0 0, .p m2 1 0 0, .p m3 2 0 0, .p m4 1 0 0]) A fun r A' => r = .c (.int .i64 (ackE c n at_ a)) ∧ ((ackE c n at_ a = 0 ∧ ∃ x' G', G' = upd G m4 (.r 4 1 1 [[.c (.bool (ackAll c n))]]) ∧ G' nb = none ∧ OwnP x' (ackC c n a).pend A' (upd G' nb (bxC (ackC c n a) x'))) ∨ (¬ ackE c n at_ a = 0 ∧ ∃ G', G' = G ∧ Heap.le G' A')) := by
  have hne : ∀ m b, G m = some b → ¬ m = nb ∧ ¬ nb = m := fun m b hm => ⟨(by rintro rfl; rw [hm] at hnb; cases hnb), (by rintro rfl; rw [hm] at hnb; cases hnb)⟩
  have kb := (OwnP_loc x c.pend).get h (upd_same _ _ _)
  have k1 := (OwnP_loc x c.pend).get h (m := m1) (by rw [upd_ne (hne _ _ h1).1]; exact h1)
  have k2 := (OwnP_loc x c.pend).get h (m := m2) (by rw [upd_ne (hne _ _ h2).1]; exact h2)
  have k3 := (OwnP_loc x c.pend).get h (m := m3) (by rw [upd_ne (hne _ _ h3).1]; exact h3)
  have k4 := (OwnP_loc x c.pend).get h (m := m4) (by rw [upd_ne (hne _ _ h4).1]; exact h4)
  have b4 := (hne _ _ h4).1
  have b4' := (hne _ _ h4).2
  have hle : Heap.le G A := Heap.le_trans (le_upd_new hnb) ((OwnP_loc x c.pend).le h)
  obtain ⟨hl2, hbd⟩ := cdOk_bd hok
  have hep := cdOk_ep hok
  have hours := ours_o x c (by omega) nb A _ h (upd_same _ _ _) n at_
  have hat := fun he : oursE c n at_ = 0 => oursE_at he
  have hgo := fun p (hp : p ∈ c.pend) => pdGo_all c c.pend 0 0 (by simp only [cdOk, Bool.and_eq_true] at hok; exact hok.2) p hp
  have hE : ackE c n at_ a = if ¬ oursE c n at_ = 0 then oursE c n at_ else if (decide (0 ≤ a.task) && decide (a.task ≤ c.tasks - 1)) = false then 2 else if 3000 < a.bytes.length then 3 else if ackHas (pdAt c n).acks a.task = true then 5 else 0 := rfl
  generalize ackE c n at_ a = E at *
  obtain ⟨Q, hQ⟩ : ∃ Q : AV → Heap → Prop, Q = fun r A' => r = .c (.int .i64 E) ∧ ((E = 0 ∧ ∃ x' G', G' = upd G m4 (.r 4 1 1 [[.c (.bool (ackAll c n))]]) ∧ G' nb = none ∧ OwnP x' (ackC c n a).pend A' (upd G' nb (bxC (ackC c n a) x'))) ∨ (¬ E = 0 ∧ ∃ G', G' = G ∧ Heap.le G' A')) := ⟨_, rfl⟩
  rw [← hQ]
  have hbad : ¬ E = 0 → Q (.c (.int .i64 E)) A := fun he => by rw [hQ]; exact ⟨rfl, .inr ⟨he, G, rfl, hle⟩⟩
  have hgood : E = 0 → ∀ A', OwnP x (ackC c n a).pend A' (upd (upd G m4 (.r 4 1 1 [[.c (.bool (ackAll c n))]])) nb (bxC c x)) → Q (.c (.int .i64 0)) A' := fun he A' ho => by rw [hQ]; subst he; exact ⟨rfl, .inl ⟨rfl, x, _, rfl, by rw [upd_ne b4']; exact hnb, ho⟩⟩
  have k4' := h4
  clear hQ hle hne hok h1 h2 h3 h4
  unfold ackAll ackC at hgood
  simp only at hgood
  have hbx : bxC c x = .r 30 6 1 [c.cl x] := rfl
  rw [hbx] at kb h
  simp only [Cd.cl] at kb
  simp only [List.cons_append, List.nil_append] at *
  have htw : IntKind.i64.wrap (c.tasks - 1) = c.tasks - 1 := wrap_i64 (by omega) (by omega)
  have hwt := withinI_p a.task 0 (c.tasks - 1)
  have ht16 := hep.2.2.2.1
  obtain ⟨task, bs⟩ := a
  simp only at hwt hE hab
  simp only [Ak.av] at k3
  have hn := ne_old k1
  have hn4 := ne_old k4
  have hnB := ne_old kb
  clear hnb
  replace h := Lib.hid h
  replace hbad := Lib.hid hbad
  replace hgood := Lib.hid hgood
  replace hat := Lib.hid hat
  replace hgo := Lib.hid hgo
  replace hbd := Lib.hid hbd
  replace hep := Lib.hid hep
  generalize hO : oursE c n at_ = O at *
  by_cases hO0 : O = 0
  rotate_left
  · rw [if_pos hO0] at hE
    subst hE
    have hOF := eq_false hO0
    refine ACall_of' Try.func62 rfl (Ent_of Try.func62 (by kernel_rfl) rfl) (by simp [Try.ntmps62]) ?_; simp only [Try.ntmps62, Try.results62]
    repeat' (first
    | refine AW_seq_kn fun K hK => ?_
    | refine AW_block ?_
    | (refine does_call rfl rfl ?_; simp only [push_cast, seval, *]; refine ACall.mono hours ?_; (rintro _ _ ⟨rfl, e2⟩; have e3 := e2.symm; clear e2; subst e3); (try simp only [push_cast, seval, *]))
    | (refine does_call rfl rfl ?_; simp only [push_cast, seval, *]; refine ACall.monoP (withinI_p _ _ _ _) ?_; (try simp only [push_cast, seval, *]))
    | ((first
      | refine AW_region_draw (id := 4) E0 (fun f => [].contains f) dLN0 dAN0 mixed (by kernel_rfl) ?_
      | refine AW_region_draw (id := 9) E0 (fun f => [].contains f) dLN1 dAN1 mixed (by kernel_rfl) ?_
      | refine AW_region_draw (id := 12) E0 (fun f => [].contains f) dLN2 dAN2 mixed (by kernel_rfl) ?_
      | refine AW_region_draw (id := 13) E0 (fun f => [].contains f) dLN3 dAN3 mixed (by kernel_rfl) ?_
      | refine AW_region E0 ?_ | refine AW_ret ?_ | refine AW_exit ?_ | refine AW_skip ?_ | unfold retQ); try simp only [push_cast, seval, *])
    | (apply AW_cond; (case hc => (simp only [push_cast, seval]; rfl)); all_goals (intro hc; first | (exfalso; simp only [push_cast, seval, *] at hc; done) | (exact absurd hc (by decide)) | ((try first | rw [Bool.not_true] at hc | rw [Bool.not_false] at hc); first | (with_reducible replace hc := tTT hc); clear hc | (with_reducible replace hc := tFF hc); clear hc | (have hp := hc; try simp only [decide_eq_true_eq, decide_eq_false_iff_not, bA, bB, bC, bD, bE, bF, bG, bH] at hp))))
    | (refine Kn.go hK ?_; clear hK K)
    | refine Kn.go (by assumption) ?_
    | (intro n hn; (try simp only [upd_none2, join_none_iff, ite_none, ne_eq] at hn); (try simp only [push_cast, seval, *]))
    | (intro hc)
    | fail)
    exact ⟨_, _, Weak.refl _ _, unhid hbad hO0⟩
  rw [if_neg (fun h => h hO0)] at hE
  have hatt := unhid hat hO0
  subst hO0
  clear hat hO
  cases hW : (decide (0 ≤ task) && decide (task ≤ c.tasks - 1))
  · rw [hW, if_pos rfl] at hE
    subst hE
    refine ACall_of' Try.func62 rfl (Ent_of Try.func62 (by kernel_rfl) rfl) (by simp [Try.ntmps62]) ?_; simp only [Try.ntmps62, Try.results62]
    repeat' (first
    | refine AW_seq_kn fun K hK => ?_
    | refine AW_block ?_
    | (refine does_call rfl rfl ?_; simp only [push_cast, seval, *]; refine ACall.mono hours ?_; (rintro _ _ ⟨rfl, e2⟩; have e3 := e2.symm; clear e2; subst e3); (try simp only [push_cast, seval, *]))
    | (refine does_call rfl rfl ?_; simp only [push_cast, seval, *]; refine ACall.monoP (withinI_p _ _ _ _) ?_; (try simp only [push_cast, seval, *]))
    | ((first
      | refine AW_region_draw (id := 4) E0 (fun f => [].contains f) dLN0 dAN0 mixed (by kernel_rfl) ?_
      | refine AW_region_draw (id := 9) E0 (fun f => [].contains f) dLN1 dAN1 mixed (by kernel_rfl) ?_
      | refine AW_region_draw (id := 12) E0 (fun f => [].contains f) dLN2 dAN2 mixed (by kernel_rfl) ?_
      | refine AW_region_draw (id := 13) E0 (fun f => [].contains f) dLN3 dAN3 mixed (by kernel_rfl) ?_
      | refine AW_region E0 ?_ | refine AW_ret ?_ | refine AW_exit ?_ | refine AW_skip ?_ | unfold retQ); try simp only [push_cast, seval, *])
    | (apply AW_cond; (case hc => (simp only [push_cast, seval]; rfl)); all_goals (intro hc; first | (exfalso; simp only [push_cast, seval, *] at hc; done) | (exact absurd hc (by decide)) | ((try first | rw [Bool.not_true] at hc | rw [Bool.not_false] at hc); first | (with_reducible replace hc := tTT hc); clear hc | (with_reducible replace hc := tFF hc); clear hc | (have hp := hc; try simp only [decide_eq_true_eq, decide_eq_false_iff_not, bA, bB, bC, bD, bE, bF, bG, bH] at hp))))
    | (refine Kn.go hK ?_; clear hK K)
    | refine Kn.go (by assumption) ?_
    | (intro n hn; (try simp only [upd_none2, join_none_iff, ite_none, ne_eq] at hn); (try simp only [push_cast, seval, *]))
    | (intro hc)
    | fail)
    exact ⟨_, _, Weak.refl _ _, unhid hbad (by decide)⟩
  rw [hW, if_neg (by decide)] at hE
  by_cases h3k : 3000 < bs.length
  · rw [if_pos h3k] at hE
    subst hE
    have h3I : (3000 : Int) < bs.length := by omega
    refine ACall_of' Try.func62 rfl (Ent_of Try.func62 (by kernel_rfl) rfl) (by simp [Try.ntmps62]) ?_; simp only [Try.ntmps62, Try.results62]
    repeat' (first
    | refine AW_seq_kn fun K hK => ?_
    | refine AW_block ?_
    | (refine does_call rfl rfl ?_; simp only [push_cast, seval, *]; refine ACall.mono hours ?_; (rintro _ _ ⟨rfl, e2⟩; have e3 := e2.symm; clear e2; subst e3); (try simp only [push_cast, seval, *]))
    | (refine does_call rfl rfl ?_; simp only [push_cast, seval, *]; refine ACall.monoP (withinI_p _ _ _ _) ?_; (try simp only [push_cast, seval, *]))
    | ((first
      | refine AW_region_draw (id := 4) E0 (fun f => [].contains f) dLN0 dAN0 mixed (by kernel_rfl) ?_
      | refine AW_region_draw (id := 9) E0 (fun f => [].contains f) dLN1 dAN1 mixed (by kernel_rfl) ?_
      | refine AW_region_draw (id := 12) E0 (fun f => [].contains f) dLN2 dAN2 mixed (by kernel_rfl) ?_
      | refine AW_region_draw (id := 13) E0 (fun f => [].contains f) dLN3 dAN3 mixed (by kernel_rfl) ?_
      | refine AW_region E0 ?_ | refine AW_ret ?_ | refine AW_exit ?_ | refine AW_skip ?_ | unfold retQ); try simp only [push_cast, seval, *])
    | (apply AW_cond; (case hc => (simp only [push_cast, seval]; rfl)); all_goals (intro hc; first | (exfalso; simp only [push_cast, seval, *] at hc; done) | (exact absurd hc (by decide)) | ((try first | rw [Bool.not_true] at hc | rw [Bool.not_false] at hc); first | (with_reducible replace hc := tTT hc); clear hc | (with_reducible replace hc := tFF hc); clear hc | (have hp := hc; try simp only [decide_eq_true_eq, decide_eq_false_iff_not, bA, bB, bC, bD, bE, bF, bG, bH] at hp))))
    | (refine Kn.go hK ?_; clear hK K)
    | refine Kn.go (by assumption) ?_
    | (intro n hn; (try simp only [upd_none2, join_none_iff, ite_none, ne_eq] at hn); (try simp only [push_cast, seval, *]))
    | (intro hc)
    | fail)
    exact ⟨_, _, Weak.refl _ _, unhid hbad (by decide)⟩
  rw [if_neg h3k] at hE
  have h3I : ¬ (3000 : Int) < bs.length := by omega
  obtain ⟨i, hfi, hpi⟩ := hatt
  rw [hfi] at hours hgood
  have hpm := List.mem_of_getElem? hpi
  have hil := (List.getElem?_eq_some_iff.1 hpi).1
  generalize pdAt c n = p at *
  obtain ⟨np, cap, R, y, A3, rfl, hRl, hRi, q1, q2, hoy, hq, hclose⟩ := (unhid h).open hpi
  have htk : 0 ≤ task ∧ task ≤ 16 := by simp only [Bool.and_eq_true, decide_eq_true_eq] at hW; omega
  have hbs := bs_own y p.acks c.tasks ht16 (unhid hgo p hpm) task htk A A3 hoy
  have hiI : (i : Int) < c.pend.length := by omega
  have hykcs := hoy.cs
  have hyone := hoy.one
  have hylen := hoy.len
  have hk1 := lbd_le (fun b : Ak => decide (b.task - task < 0)) p.acks
  have hbp := (unhid hbd p hpm).1
  have gB := hq nb _ (by rintro rfl; rw [kb] at q1; cases q1) (upd_same _ _ _)
  have g1 := hq m4 _ (by rintro rfl; rw [k4] at q1; cases q1) (by rw [upd_ne b4]; exact k4')
  obtain ⟨num, bg, sv, ac⟩ := p
  simp only [encP] at hRi
  simp only at hE hbs hoy hylen hk1 hbp
  replace hoy := Lib.hid hoy
  replace hclose := Lib.hid hclose
  clear hgo hbd hep hq hl2 hpi hpm h hfi htk
  cases hH : ackHas ac task
  rotate_left
  · rw [hH, if_pos rfl] at hE
    subst hE
    rw [hH] at hbs
    refine ACall_of' Try.func62 rfl (Ent_of Try.func62 (by kernel_rfl) rfl) (by simp [Try.ntmps62]) ?_; simp only [Try.ntmps62, Try.results62]
    repeat' (first
    | refine AW_seq_kn fun K hK => ?_
    | refine AW_block ?_
    | (refine does_call rfl rfl ?_; simp only [push_cast, seval, *]; refine ACall.mono hours ?_; (rintro _ _ ⟨rfl, e2⟩; have e3 := e2.symm; clear e2; subst e3); (try simp only [push_cast, seval, *]))
    | (refine does_call rfl rfl ?_; simp only [push_cast, seval, *]; refine ACall.mono hbs ?_; (rintro _ _ ⟨rfl, e2⟩; have e3 := e2.symm; clear e2; subst e3); (try simp only [push_cast, seval, *]))
    | (refine does_call rfl rfl ?_; simp only [push_cast, seval, *]; refine ACall.monoP (withinI_p _ _ _ _) ?_; (try simp only [push_cast, seval, *]))
    | ((first
      | refine AW_region_draw (id := 4) E0 (fun f => [].contains f) dLN0 dAN0 mixed (by kernel_rfl) ?_
      | refine AW_region_draw (id := 9) E0 (fun f => [].contains f) dLN1 dAN1 mixed (by kernel_rfl) ?_
      | refine AW_region_draw (id := 12) E0 (fun f => [].contains f) dLN2 dAN2 mixed (by kernel_rfl) ?_
      | refine AW_region_draw (id := 13) E0 (fun f => [].contains f) dLN3 dAN3 mixed (by kernel_rfl) ?_
      | refine AW_region E0 ?_ | refine AW_ret ?_ | refine AW_exit ?_ | refine AW_skip ?_ | unfold retQ); try simp only [push_cast, seval, *])
    | (apply AW_cond; (case hc => (simp only [push_cast, seval]; rfl)); all_goals (intro hc; first | (exfalso; simp only [push_cast, seval, *] at hc; done) | (exact absurd hc (by decide)) | ((try first | rw [Bool.not_true] at hc | rw [Bool.not_false] at hc); first | (with_reducible replace hc := tTT hc); clear hc | (with_reducible replace hc := tFF hc); clear hc | (have hp := hc; try simp only [decide_eq_true_eq, decide_eq_false_iff_not, bA, bB, bC, bD, bE, bF, bG, bH] at hp))))
    | (refine Kn.go hK ?_; clear hK K)
    | refine Kn.go (by assumption) ?_
    | (intro n hn; (try simp only [upd_none2, join_none_iff, ite_none, ne_eq] at hn); (try simp only [push_cast, seval, *]))
    | (intro hc)
    | fail)
    exact ⟨_, _, Weak.refl _ _, unhid hbad (by decide)⟩
  rw [hH, if_neg (by decide)] at hE
  subst hE
  rw [hH] at hbs
  have hbc := bclone_o bs (by omega)
  refine ACall_of' Try.func62 rfl (Ent_of Try.func62 (by kernel_rfl) rfl) (by simp [Try.ntmps62]) ?_; simp only [Try.ntmps62, Try.results62]
  repeat' (first
    | refine AW_seq_kn fun K hK => ?_
    | refine AW_block ?_
    | (refine does_call rfl rfl ?_; simp only [push_cast, seval, *]; refine ACall.mono hours ?_; (rintro _ _ ⟨rfl, e2⟩; have e3 := e2.symm; clear e2; subst e3); (try simp only [push_cast, seval, *]))
    | (refine does_call rfl rfl ?_; simp only [push_cast, seval, *]; refine ACall.mono hbs ?_; (rintro _ _ ⟨rfl, e2⟩; have e3 := e2.symm; clear e2; subst e3); (try simp only [push_cast, seval, *]))
    | (refine does_call rfl rfl ?_; simp only [push_cast, seval, *]; refine ACall.monoP (withinI_p _ _ _ _) ?_; (try simp only [push_cast, seval, *]))
    | ((first
      | refine AW_region_draw (id := 4) E0 (fun f => [].contains f) dLN0 dAN0 mixed (by kernel_rfl) ?_
      | refine AW_region_draw (id := 9) E0 (fun f => [].contains f) dLN1 dAN1 mixed (by kernel_rfl) ?_
      | refine AW_region_draw (id := 12) E0 (fun f => [].contains f) dLN2 dAN2 mixed (by kernel_rfl) ?_
      | refine AW_region_draw (id := 13) E0 (fun f => [].contains f) dLN3 dAN3 mixed (by kernel_rfl) ?_
      | refine AW_region E0 ?_ | refine AW_ret ?_ | refine AW_exit ?_ | refine AW_skip ?_ | unfold retQ); try simp only [push_cast, seval, *])
    | (apply AW_cond; (case hc => (simp only [push_cast, seval]; rfl)); all_goals (intro hc; first | (exfalso; simp only [push_cast, seval, *] at hc; done) | (exact absurd hc (by decide)) | ((try first | rw [Bool.not_true] at hc | rw [Bool.not_false] at hc); first | (with_reducible replace hc := tTT hc); clear hc | (with_reducible replace hc := tFF hc); clear hc | (have hp := hc; try simp only [decide_eq_true_eq, decide_eq_false_iff_not, bA, bB, bC, bD, bE, bF, bG, bH] at hp))))
    | (refine Kn.go hK ?_; clear hK K)
    | refine Kn.go (by assumption) ?_
    | (intro n hn; (try simp only [upd_none2, join_none_iff, ite_none, ne_eq] at hn); (try simp only [push_cast, seval, *]))
    | (intro hc)
    | fail)
  refine does_call rfl rfl ?_
  simp only [push_cast, seval, *]
  refine ACall.mono (hbc _) ?_
  intro z G1 hoz
  have hzcs := hoz.cs
  have hzone := hoz.one
  have r1 := hoz.get q1
  have r2 := hoz.get k3
  have r3 := hoz.get k4
  have r4 := hoz.get kb
  obtain ⟨M, B1, B', hM, p1, hfin⟩ := OwnA.ins (a := ⟨task, bs⟩) (unhid hoy) hoz
  have hMl : M.length = ac.length := by rw [← hM]; simp
  have hn5 := ne_old r1
  have hn6 := ne_old r2
  replace hfin := Lib.hid hfin
  replace p1 := Lib.hid p1
  clear hbc hbs hours hoz hoy q1 k1 k2 k3 k4 kb hn hn4 hnB hwt
  (try simp only [push_cast, seval, *])
  repeat' (first
    | refine AW_seq_kn fun K hK => ?_
    | refine AW_block ?_
    | (refine does_call rfl rfl ?_; simp only [push_cast, seval, *]; refine ACall.monoP (withinI_p _ _ _ _) ?_; (try simp only [push_cast, seval, *]))
    | ((first
      | refine AW_region_draw (id := 4) E0 (fun f => [].contains f) dLN0 dAN0 mixed (by kernel_rfl) ?_
      | refine AW_region_draw (id := 9) E0 (fun f => [].contains f) dLN1 dAN1 mixed (by kernel_rfl) ?_
      | refine AW_region_draw (id := 12) E0 (fun f => [].contains f) dLN2 dAN2 mixed (by kernel_rfl) ?_
      | refine AW_region_draw (id := 13) E0 (fun f => [].contains f) dLN3 dAN3 mixed (by kernel_rfl) ?_
      | refine AW_region E0 ?_ | refine AW_ret ?_ | refine AW_exit ?_ | refine AW_skip ?_ | unfold retQ); try simp only [push_cast, seval, *])
    | (apply AW_cond; (case hc => (simp only [push_cast, seval]; rfl)); all_goals (intro hc; first | (exfalso; simp only [push_cast, seval, *] at hc; done) | (exact absurd hc (by decide)) | ((try first | rw [Bool.not_true] at hc | rw [Bool.not_false] at hc); first | (with_reducible replace hc := tTT hc); clear hc | (with_reducible replace hc := tFF hc); clear hc | (have hp := hc; try simp only [decide_eq_true_eq, decide_eq_false_iff_not, bA, bB, bC, bD, bE, bF, bG, bH] at hp))))
    | (refine Kn.go hK ?_; clear hK K)
    | refine Kn.go (by assumption) ?_
    | (intro n hn; (try simp only [upd_none2, join_none_iff, ite_none, ne_eq] at hn); (try simp only [push_cast, seval, *]))
    | (intro hc)
    | fail)
  refine does_call rfl rfl ?_
  simp only [push_cast, seval, *]
  refine ACall.mono (ains_o (i := ackK ac task) ((unhid p1).new hn _) (upd_same _ _ _) (by rw [List.length_map, hMl]; exact hk1) (by rw [List.length_map, hMl]; omega)) ?_
  intro r H' hins
  rw [del_upd_same ((unhid p1).none hn)] at hins
  have hoA := unhid hfin _ r H' hins
  have hrcs := hoA.cs
  have hrone := hoA.one
  have hrlen := hoA.len
  have hpk : (ac.take (ackK ac task) ++ [(⟨task, bs⟩ : Ak)] ++ ac.drop (ackK ac task)).length = ac.length + 1 := by
    have : ackK ac task ≤ ac.length := hk1
    simp; omega
  rw [hpk] at hrlen
  have s1 := (OwnA_loc r _).get hoA q2
  have s2 := (OwnA_loc r _).get hoA g1
  have s3 := (OwnA_loc r _).get hoA gB
  have nm : ¬ np = m4 := by rintro rfl; rw [s1] at s2; cases s2
  have nm' : ¬ m4 = np := fun e => nm e.symm
  have nb1 : ¬ nb = np := by rintro rfl; rw [s3] at s1; cases s1
  have hf2 := (OwnA_loc r _).turn hoA q2 (.r 61 4 cap (R.set i (encP (r, ⟨num, bg, sv, putAk ac ⟨task, bs⟩⟩))))
  have hf3 := unhid hclose r ⟨num, bg, sv, putAk ac ⟨task, bs⟩⟩ _ hf2
  have hf4 := (OwnP_loc _ _).turn hf3 (m := m4) (by rw [upd_ne b4]; exact k4') (.r 4 1 1 [[.c (.bool (decide ((ac.length : Int) + 1 = c.tasks)))]])
  have hsw : upd (upd G nb (.r 30 6 1 [c.cl (.s np 4 0 c.pend.length cap)])) m4 (.r 4 1 1 [[.c (.bool (decide ((ac.length : Int) + 1 = c.tasks)))]]) = upd (upd G m4 (.r 4 1 1 [[.c (.bool (decide ((ac.length : Int) + 1 = c.tasks)))]])) nb (.r 30 6 1 [c.cl (.s np 4 0 c.pend.length cap)]) := by
    funext q; simp only [upd]; by_cases e1 : q = nb <;> by_cases e2 : q = m4 <;> simp [e1, e2, b4, b4']
  rw [hsw] at hf4
  have hgo := unhid hgood rfl _ hf4
  have hRiw : i < R.length := by omega
  simp only [encP] at hgo
  simp only [Cd.cl] at s3
  clear hins hoA hf2 hf3 hf4 hsw hfin p1 hM hMl hclose hgood hbad r1 r2 r3 r4 hn5 hn6 gB g1 q2 hbx hH hpk
  replace hgo := Lib.hid hgo
  (try simp only [push_cast, seval, *])
  repeat' (first
    | refine AW_seq_kn fun K hK => ?_
    | refine AW_block ?_
    | (refine does_call rfl rfl ?_; simp only [push_cast, seval, *]; refine ACall.monoP (withinI_p _ _ _ _) ?_; (try simp only [push_cast, seval, *]))
    | ((first
      | refine AW_region_draw (id := 4) E0 (fun f => [].contains f) dLN0 dAN0 mixed (by kernel_rfl) ?_
      | refine AW_region_draw (id := 9) E0 (fun f => [].contains f) dLN1 dAN1 mixed (by kernel_rfl) ?_
      | refine AW_region_draw (id := 12) E0 (fun f => [].contains f) dLN2 dAN2 mixed (by kernel_rfl) ?_
      | refine AW_region_draw (id := 13) E0 (fun f => [].contains f) dLN3 dAN3 mixed (by kernel_rfl) ?_
      | refine AW_region E0 ?_ | refine AW_ret ?_ | refine AW_exit ?_ | refine AW_skip ?_ | unfold retQ); try simp only [push_cast, seval, *])
    | (apply AW_cond; (case hc => (simp only [push_cast, seval]; rfl)); all_goals (intro hc; first | (exfalso; simp only [push_cast, seval, *] at hc; done) | (exact absurd hc (by decide)) | ((try first | rw [Bool.not_true] at hc | rw [Bool.not_false] at hc); first | (with_reducible replace hc := tTT hc); clear hc | (with_reducible replace hc := tFF hc); clear hc | (have hp := hc; try simp only [decide_eq_true_eq, decide_eq_false_iff_not, bA, bB, bC, bD, bE, bF, bG, bH] at hp))))
    | (refine Kn.go hK ?_; clear hK K)
    | refine Kn.go (by assumption) ?_
    | (intro n hn; (try simp only [upd_none2, join_none_iff, ite_none, ne_eq] at hn); (try simp only [push_cast, seval, *]))
    | (intro hc)
    | fail)
  exact ⟨_, _, Weak.refl _ _, unhid hgo⟩
end Go.Proofs.Ytlbdpnlmdcajbaa
