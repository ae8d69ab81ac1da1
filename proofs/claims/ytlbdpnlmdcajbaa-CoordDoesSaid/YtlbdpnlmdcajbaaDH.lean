/- The document's Acked. -/
import Derived.Test.YtlbdpnlmdcajbaaDC
import Derived.Test.YtlbdpnlmdcajbaaN
import Derived.Test.YtlbdpnlmdcajbaaZR
namespace Go.Proofs.Ytlbdpnlmdcajbaa
open Go.RowKit
open Nat renaming reduceEqDiff → nA, reduceLT → nB, reduceLeDiff → nC, reduceAdd → nD, reduceMul → nE, reduceSub → nF, reduceBEq → nG
open Int renaming reduceToNat → iA, reduceLT → iB, reduceLE → iC, reduceEq → iD
open Bool renaming and_eq_true → bA, or_eq_true → bB, or_eq_false_iff → bC, and_eq_false_iff → bD, not_eq_true' → bE, not_eq_false' → bF, not_true → bG, not_false → bH
set_option linter.all false
set_option maxHeartbeats 4000000
attribute [local irreducible] AW Does ACall tE tS tB tZ
def dLDH0 : List En := [(0, false, []), (1, false, []), (2, false, []), (3, false, []), (4, false, []), (5, false, []), (6, false, []), (7, false, []), (8, false, [])]
def dADH0 : List (List Nat) := [[], [0], [], [0, 1, 2], [0, 1, 2, 3], [], [5], [0, 1, 2, 3, 4, 5, 6], [0, 1, 2, 3, 4, 5, 6, 7]]
attribute [push_cast] dLDH0
def dLDH1 : List En := [(0, false, []), (1, true, []), (3, false, []), (4, false, []), (2, false, []), (5, false, [1, 7]), (6, false, []), (7, false, []), (8, false, [])]
def dADH1 : List (List Nat) := [[], [0], [], [], [3], [2, 3, 4], [0, 1, 2, 3, 4, 5], [], [0, 1, 2, 3, 4, 5, 6, 7]]
attribute [push_cast] dLDH1
def dLDH2 : List En := [(0, false, []), (1, false, []), (2, false, []), (3, false, []), (4, true, []), (5, false, []), (6, false, [4]), (7, false, []), (8, false, [])]
def dADH2 : List (List Nat) := [[], [], [1], [], [3], [1, 2, 3, 4], [0], [0, 1, 2, 3, 4, 5, 6], [0, 1, 2, 3, 4, 5, 6, 7]]
attribute [push_cast] dLDH2
set_option maxRecDepth 5000

theorem le_both' {A B : Heap} {q : Nat} {b : Blk} (h : Heap.le A B) : Heap.le (upd A q b) (upd B q b) := fun p x hp => by
  by_cases e : p = q
  · subst e; rw [upd_same] at hp ⊢; exact hp
  · rw [upd_ne e] at hp ⊢; exact h p x hp
theorem has_hasT {ts t : Int} : ∀ {l : List Ak} {last : Int}, akGo ts last l = true → hasT l t = ackHas l t
  | [], _, _ => rfl
  | x :: l, last, h => by
    have h0 := akGo_rise ts (x :: l) last h
    rw [akGo] at h
    split at h
    · rename_i c
      have ih := has_hasT (t := t) h
      rw [ackHas_cons]
      unfold hasT at ih ⊢
      rw [List.any_cons, ih]
      by_cases d : x.task < t
      · rw [if_pos d, decide_eq_false (by omega), Bool.false_or]
      · rw [if_neg d]
        by_cases e : x.task = t
        · rw [decide_eq_true e, Bool.true_or]
        · rw [decide_eq_false e, Bool.false_or, ← ih, List.any_eq_false]
          intro y hy
          obtain ⟨j, hj⟩ := List.getElem?_of_mem hy
          have := h0 0 (j + 1) x y (by omega) rfl (by simpa using hj)
          simp; omega
    · cases h
theorem ackK_le (l : List Ak) (t : Int) : ackK l t ≤ l.length := lbd_le _ _
theorem ackK_split {ts t : Int} : ∀ {l : List Ak} {last : Int}, akGo ts last l = true → ∀ (j : Nat) (x : Ak), l[j]? = some x → (j < ackK l t → x.task < t) ∧ (ackK l t ≤ j → t ≤ x.task)
  | [], _, _, j, x, hx => by simp at hx
  | a :: l, last, h, j, x, hx => by
    have h0 := akGo_rise ts (a :: l) last h
    rw [akGo] at h
    split at h
    · have ih := fun j x hx => ackK_split (t := t) h j x hx
      have e : ackK (a :: l) t = if a.task < t then ackK l t + 1 else 0 := by
        unfold ackK
        rw [lbd_cons]
        by_cases d : a.task < t
        · rw [if_pos (by simp; omega), if_pos d]
        · rw [if_neg (by simp; omega), if_neg d]
      rw [e]
      cases j with
      | zero =>
        simp only [List.getElem?_cons_zero, Option.some.injEq] at hx
        subst hx
        by_cases d : a.task < t
        · rw [if_pos d]; exact ⟨fun _ => d, fun h => by omega⟩
        · rw [if_neg d]; exact ⟨fun h => by omega, fun _ => by omega⟩
      | succ j =>
        have hlt := h0 0 (j + 1) a x (by omega) rfl hx
        simp only [List.getElem?_cons_succ] at hx
        have := ih j x hx
        by_cases d : a.task < t
        · rw [if_pos d]; exact ⟨fun h => this.1 (by omega), fun h => this.2 (by omega)⟩
        · rw [if_neg d]; exact ⟨fun h => by omega, fun h => by omega⟩
    · cases h
theorem refAcked_p (c : Cd) (hok : cdOk c = true) (nm at_ : Int) (a : Ak) (hab : a.bytes.length ≤ 3001) : Pure Try.prog 42 [.g (Cd.av c), .c (.int .u64 nm), .c (.int .i64 at_), .g (Ak.av a)] (.t [.g (if ackE c nm at_ a = 0 then ackC c nm a else zeroC).av, .c (.bool (if ackE c nm at_ a = 0 then ackAll c nm else false)), .c (.int .i64 (ackE c nm at_ a))]) := by
  intro H
  have hcb := Copy_b c (small_of hok)
  have hl2 := (cdOk_bd hok).1
  have hbd := (cdOk_bd hok).2
  have hat := refAt_p c (by unfold maxLen; omega) nm at_
  have ho := fun h => oursE_at (c := c) (n := nm) (at_ := at_) h
  have hgo := fun p (hp : p ∈ c.pend) => pdGo_all c c.pend 0 0 ((cdOk_iff c).1 hok).2 p hp
  have hE : ackE c nm at_ a = if ¬ oursE c nm at_ = 0 then oursE c nm at_ else if (decide (0 ≤ a.task) && decide (a.task ≤ c.tasks - 1)) = false then 2 else if 3000 < a.bytes.length then 3 else if ackHas (pdAt c nm).acks a.task = true then 5 else 0 := rfl
  have hC : ackC c nm a = { c with pend := c.pend.set (fndS c.pend nm).toNat { pdAt c nm with acks := putAk (pdAt c nm).acks a } } := rfl
  have hAl : ackAll c nm = decide (((pdAt c nm).acks.length : Int) + 1 = c.tasks) := rfl
  rw [hC, hAl]
  clear hC hAl
  have hhp := fun (hl : (pdAt c nm).acks.length ≤ maxLen) => refHas_p (pdAt c nm) hl a.task
  generalize ackE c nm at_ a = E at *
  generalize pdAt c nm = P at *
  generalize oursE c nm at_ = OE at *
  generalize fndS c.pend nm = I at *
  obtain ⟨c0, c1, c2, c3, c4, l⟩ := c
  simp only at hl2 hbd ho hgo hE hcb ⊢
  obtain ⟨task, bs⟩ := a
  have hav : ∀ a0 a1 a2 a3 a4 a5, Cd.av ⟨a0, a1, a2, a3, a4, a5⟩ = [.c (.int .u64 a0), .c (.int .u64 a1), .c (.int .i64 a2), .c (.int .i64 a3), .c (.int .i64 a4), .l 4 (a5.map Pd.av)] := fun _ _ _ _ _ _ => rfl
  have haa : Ak.av ⟨task, bs⟩ = [.c (.int .i64 task), .l 1 (bs.map by1)] := rfl
  rw [hav c0 c1 c2 c3 c4 l] at hcb hat ⊢
  rw [haa]
  simp only [Cd.cl] at hcb hE hab hhp
  have hz2 := zc3 H
  replace hz2 := Lib.hid hz2
  replace hcb := Lib.hid hcb
  clear hok hav
  by_cases hO : OE = 0
  rotate_left
  · rw [if_neg hO] at hat
    rw [if_pos hO] at hE
    subst hE
    rw [if_neg hO, if_neg hO]
    have hOF := eq_false hO
    clear ho hgo hbd hhp
    refine ACall_of' Try.func42 rfl (Ent_of Try.func42 (by kernel_rfl) rfl) (by simp [Try.ntmps42]) ?_; simp only [Try.ntmps42, Try.results42]
    repeat' (first
    | refine AW_seq_kn fun K hK => ?_
    | refine AW_block ?_
    | (refine does_call rfl rfl ?_; simp only [push_cast, seval, *]; refine ACall.monoP (hat _) ?_; (try simp only [push_cast, seval, *]))
    | ((first
      | refine AW_region_draw (id := 8) E0 (fun f => [].contains f) dLDH0 dADH0 mixed (by kernel_rfl) ?_
      | refine AW_region_draw (id := 11) E0 (fun f => [].contains f) dLDH1 dADH1 mixed (by kernel_rfl) ?_
      | refine AW_region_draw (id := 24) E0 (fun f => [].contains f) dLDH2 dADH2 mixed (by kernel_rfl) ?_
      | refine AW_region E0 ?_ | refine AW_ret ?_ | refine AW_exit ?_ | refine AW_skip ?_ | unfold retQ); try simp only [push_cast, seval, *])
    | ((first | (apply AW_cond; (case hc => (simp only [push_cast, seval]; rfl))) | (apply ER_guard; (case hb => (simp only [push_cast, seval]; rfl)))); all_goals ((intro hc; first | (exfalso; simp only [push_cast, seval, *] at hc; done) | (exact absurd hc (by decide)) | ((try first | rw [Bool.not_true] at hc | rw [Bool.not_false] at hc); first | (with_reducible replace hc := tTT hc); clear hc | (with_reducible replace hc := tFF hc); clear hc | (have hp := hc; try simp only [decide_eq_true_eq, decide_eq_false_iff_not, bA, bB, bC, bD, bE, bF, bG, bH] at hp))) <;> try simp only [push_cast, seval, *]))
    | (refine Kn.go hK ?_; clear hK K)
    | refine Kn.go (by assumption) ?_
    | (intro n hn; (try simp only [upd_none2, join_none_iff, ite_none, ne_eq] at hn); (try simp only [push_cast, seval, *]))
    | (intro hc)
    | (apply ER_blk; (case hp => rfl); (case hb => (simp only [push_cast, seval]; rfl)); (case hd => (simp only [push_cast, seval]; done)); (case h => (intro hc; simp only [push_cast, seval, *]; rfl)); simp only [push_cast, seval, *])
    | fail)
    exact ⟨_, H, Weak.trans (Weak.less (by (repeat' (first | exact Heap.le_refl _ | refine hle_upd2 ?_ _ _ | (refine Heap.le_new ?_ ?_; rotate_left 1; focus (first | assumption | (simp only [upd_none2, upd_get, ne_eq, push_cast, seval, *]; done) | (simp [upd_get, *]; done))))))) (unhid hz2 _ _), rfl, rfl⟩
  subst hO
  rw [if_pos rfl] at hat
  rw [if_neg (by decide)] at hE
  obtain ⟨i, rfl, hp⟩ := ho rfl
  clear ho
  rw [Int.toNat_natCast]
  have hi0 : (0 : Int) ≤ i := by omega
  have hil := (List.getElem?_eq_some_iff.1 hp).1
  have hiI : (i : Int) < l.length := by omega
  have hPg := hgo P (List.mem_of_getElem? hp)
  have hPb := (hbd P (List.mem_of_getElem? hp)).1
  have hhs := hhp (by unfold maxLen; omega)
  rw [has_hasT hPg] at hhs
  have hrow : (l.map Pd.av)[i]? = some (Pd.av P) := by rw [List.getElem?_map, hp]; rfl
  clear hhp hgo hbd
  have hK := ackK_le P.acks task
  have hsp := fun j x hx => ackK_split (t := task) hPg j x hx
  have hnt : ackHas P.acks task = false → ∀ x ∈ P.acks, ¬ x.task = task := fun h x hx e => by
    rw [← has_hasT hPg, hasT, List.any_eq_false] at h; exact h x hx (by simp [e])
  unfold putAk
  obtain ⟨num, bg, sv, ac⟩ := P
  have hpv : Pd.av ⟨num, bg, sv, ac⟩ = [.c (.int .u64 num), .c (.int .i64 bg), .c (.bool sv), .l 2 (ac.map Ak.av)] := rfl
  rw [hpv] at hrow hhs
  simp only at hE hPg hPb hhs hK hsp hnt ⊢
  generalize ackHas ac task = HB at *
  generalize ackK ac task = kk at *
  clear hPg hpv haa
  by_cases hW : task < 0 ∨ c2 ≤ task
  · rw [if_pos (by simp; omega)] at hE
    subst hE
    rw [if_neg (by decide), if_neg (by decide)]
    have hW2 : task < 0 ∨ (¬ task < 0 ∧ c2 ≤ task) := by omega
    clear hsp hW hhs hnt
    rcases hW2 with hW | ⟨hW, hW2⟩
    all_goals
      refine ACall_of' Try.func42 rfl (Ent_of Try.func42 (by kernel_rfl) rfl) (by simp [Try.ntmps42]) ?_; simp only [Try.ntmps42, Try.results42]
      repeat' (first
    | refine AW_seq_kn fun K hK => ?_
    | refine AW_block ?_
    | (refine does_call rfl rfl ?_; simp only [push_cast, seval, *]; refine ACall.monoP (hat _) ?_; (try simp only [push_cast, seval, *]))
    | ((first
      | refine AW_region_draw (id := 8) E0 (fun f => [].contains f) dLDH0 dADH0 mixed (by kernel_rfl) ?_
      | refine AW_region_draw (id := 11) E0 (fun f => [].contains f) dLDH1 dADH1 mixed (by kernel_rfl) ?_
      | refine AW_region_draw (id := 24) E0 (fun f => [].contains f) dLDH2 dADH2 mixed (by kernel_rfl) ?_
      | refine AW_region E0 ?_ | refine AW_ret ?_ | refine AW_exit ?_ | refine AW_skip ?_ | unfold retQ); try simp only [push_cast, seval, *])
    | ((first | (apply AW_cond; (case hc => (simp only [push_cast, seval]; rfl))) | (apply ER_guard; (case hb => (simp only [push_cast, seval]; rfl)))); all_goals ((intro hc; first | (exfalso; simp only [push_cast, seval, *] at hc; done) | (exact absurd hc (by decide)) | ((try first | rw [Bool.not_true] at hc | rw [Bool.not_false] at hc); first | (with_reducible replace hc := tTT hc); clear hc | (with_reducible replace hc := tFF hc); clear hc | (have hp := hc; try simp only [decide_eq_true_eq, decide_eq_false_iff_not, bA, bB, bC, bD, bE, bF, bG, bH] at hp))) <;> try simp only [push_cast, seval, *]))
    | (refine Kn.go hK ?_; clear hK K)
    | refine Kn.go (by assumption) ?_
    | (intro n hn; (try simp only [upd_none2, join_none_iff, ite_none, ne_eq] at hn); (try simp only [push_cast, seval, *]))
    | (intro hc)
    | (apply ER_blk; (case hp => rfl); (case hb => (simp only [push_cast, seval]; rfl)); (case hd => (simp only [push_cast, seval]; done)); (case h => (intro hc; simp only [push_cast, seval, *]; rfl)); simp only [push_cast, seval, *])
    | fail)
      exact ⟨_, H, Weak.trans (Weak.less (by (repeat' (first | exact Heap.le_refl _ | refine hle_upd2 ?_ _ _ | (refine Heap.le_new ?_ ?_; rotate_left 1; focus (first | assumption | (simp only [upd_none2, upd_get, ne_eq, push_cast, seval, *]; done) | (simp [upd_get, *]; done))))))) (unhid hz2 _ _), rfl, rfl⟩
  have hWa : ¬ task < 0 := by omega
  have hWb : ¬ c2 ≤ task := by omega
  rw [if_neg (by simp; omega)] at hE
  clear hW
  by_cases h3 : 3000 < bs.length
  · rw [if_pos h3] at hE
    subst hE
    rw [if_neg (by decide), if_neg (by decide)]
    have h3I : (3000 : Int) < bs.length := by omega
    clear hsp hhs hnt
    refine ACall_of' Try.func42 rfl (Ent_of Try.func42 (by kernel_rfl) rfl) (by simp [Try.ntmps42]) ?_; simp only [Try.ntmps42, Try.results42]
    repeat' (first
    | refine AW_seq_kn fun K hK => ?_
    | refine AW_block ?_
    | (refine does_call rfl rfl ?_; simp only [push_cast, seval, *]; refine ACall.monoP (hat _) ?_; (try simp only [push_cast, seval, *]))
    | ((first
      | refine AW_region_draw (id := 8) E0 (fun f => [].contains f) dLDH0 dADH0 mixed (by kernel_rfl) ?_
      | refine AW_region_draw (id := 11) E0 (fun f => [].contains f) dLDH1 dADH1 mixed (by kernel_rfl) ?_
      | refine AW_region_draw (id := 24) E0 (fun f => [].contains f) dLDH2 dADH2 mixed (by kernel_rfl) ?_
      | refine AW_region E0 ?_ | refine AW_ret ?_ | refine AW_exit ?_ | refine AW_skip ?_ | unfold retQ); try simp only [push_cast, seval, *])
    | ((first | (apply AW_cond; (case hc => (simp only [push_cast, seval]; rfl))) | (apply ER_guard; (case hb => (simp only [push_cast, seval]; rfl)))); all_goals ((intro hc; first | (exfalso; simp only [push_cast, seval, *] at hc; done) | (exact absurd hc (by decide)) | ((try first | rw [Bool.not_true] at hc | rw [Bool.not_false] at hc); first | (with_reducible replace hc := tTT hc); clear hc | (with_reducible replace hc := tFF hc); clear hc | (have hp := hc; try simp only [decide_eq_true_eq, decide_eq_false_iff_not, bA, bB, bC, bD, bE, bF, bG, bH] at hp))) <;> try simp only [push_cast, seval, *]))
    | (refine Kn.go hK ?_; clear hK K)
    | refine Kn.go (by assumption) ?_
    | (intro n hn; (try simp only [upd_none2, join_none_iff, ite_none, ne_eq] at hn); (try simp only [push_cast, seval, *]))
    | (intro hc)
    | (apply ER_blk; (case hp => rfl); (case hb => (simp only [push_cast, seval]; rfl)); (case hd => (simp only [push_cast, seval]; done)); (case h => (intro hc; simp only [push_cast, seval, *]; rfl)); simp only [push_cast, seval, *])
    | fail)
    exact ⟨_, H, Weak.trans (Weak.less (by (repeat' (first | exact Heap.le_refl _ | refine hle_upd2 ?_ _ _ | (refine Heap.le_new ?_ ?_; rotate_left 1; focus (first | assumption | (simp only [upd_none2, upd_get, ne_eq, push_cast, seval, *]; done) | (simp [upd_get, *]; done))))))) (unhid hz2 _ _), rfl, rfl⟩
  rw [if_neg h3] at hE
  have h3I : ¬ (3000 : Int) < bs.length := by omega
  cases HB
  rotate_left
  · rw [if_pos rfl] at hE
    subst hE
    rw [if_neg (by decide), if_neg (by decide)]
    clear hsp hnt
    refine ACall_of' Try.func42 rfl (Ent_of Try.func42 (by kernel_rfl) rfl) (by simp [Try.ntmps42]) ?_; simp only [Try.ntmps42, Try.results42]
    repeat' (first
    | refine AW_seq_kn fun K hK => ?_
    | refine AW_block ?_
    | (refine does_call rfl rfl ?_; simp only [push_cast, seval, *]; refine ACall.monoP (hat _) ?_; (try simp only [push_cast, seval, *]))
    | (refine does_call rfl rfl ?_; simp only [push_cast, seval, *]; refine ACall.monoP (hhs _) ?_; (try simp only [push_cast, seval, *]))
    | ((first
      | refine AW_region_draw (id := 8) E0 (fun f => [].contains f) dLDH0 dADH0 mixed (by kernel_rfl) ?_
      | refine AW_region_draw (id := 11) E0 (fun f => [].contains f) dLDH1 dADH1 mixed (by kernel_rfl) ?_
      | refine AW_region_draw (id := 24) E0 (fun f => [].contains f) dLDH2 dADH2 mixed (by kernel_rfl) ?_
      | refine AW_region E0 ?_ | refine AW_ret ?_ | refine AW_exit ?_ | refine AW_skip ?_ | unfold retQ); try simp only [push_cast, seval, *])
    | ((first | (apply AW_cond; (case hc => (simp only [push_cast, seval]; rfl))) | (apply ER_guard; (case hb => (simp only [push_cast, seval]; rfl)))); all_goals ((intro hc; first | (exfalso; simp only [push_cast, seval, *] at hc; done) | (exact absurd hc (by decide)) | ((try first | rw [Bool.not_true] at hc | rw [Bool.not_false] at hc); first | (with_reducible replace hc := tTT hc); clear hc | (with_reducible replace hc := tFF hc); clear hc | (have hp := hc; try simp only [decide_eq_true_eq, decide_eq_false_iff_not, bA, bB, bC, bD, bE, bF, bG, bH] at hp))) <;> try simp only [push_cast, seval, *]))
    | (refine Kn.go hK ?_; clear hK K)
    | refine Kn.go (by assumption) ?_
    | (intro n hn; (try simp only [upd_none2, join_none_iff, ite_none, ne_eq] at hn); (try simp only [push_cast, seval, *]))
    | (intro hc)
    | (apply ER_blk; (case hp => rfl); (case hb => (simp only [push_cast, seval]; rfl)); (case hd => (simp only [push_cast, seval]; done)); (case h => (intro hc; simp only [push_cast, seval, *]; rfl)); simp only [push_cast, seval, *])
    | fail)
    exact ⟨_, H, Weak.trans (Weak.less (by (repeat' (first | exact Heap.le_refl _ | refine hle_upd2 ?_ _ _ | (refine Heap.le_new ?_ ?_; rotate_left 1; focus (first | assumption | (simp only [upd_none2, upd_get, ne_eq, push_cast, seval, *]; done) | (simp [upd_get, *]; done))))))) (unhid hz2 _ _), rfl, rfl⟩
  rw [if_neg (by decide)] at hE
  subst hE
  rw [if_pos rfl, if_pos rfl]
  clear hz2
  -- the row as it grows
  obtain ⟨nr, hnr⟩ : ∃ nr : List AV, nr = [.c (.int .i64 task), .l 1 (bs.map by1)] := ⟨_, rfl⟩
  obtain ⟨rw', hrw⟩ : ∃ f : Nat → List (List AV), f = fun k => if kk < k then (ac.take kk).map Ak.av ++ [nr] ++ ((ac.take k).drop kk).map Ak.av else (ac.take k).map Ak.av := ⟨_, rfl⟩
  have hr0 : rw' 0 = [] := by rw [hrw]; simp
  have hrl : ∀ k, (rw' k).length ≤ 18 := fun k => by
    rw [hrw]
    simp only
    split
    · simp only [List.length_append, List.length_map, List.length_take, List.length_drop, List.length_singleton]; omega
    · simp only [List.length_map, List.length_take]; omega
  have hr1 : ∀ k x, ac[k]? = some x → k < kk → rw' (k + 1) = rw' k ++ [Ak.av x] := fun k x hx hk => by
    rw [hrw]
    simp only
    rw [if_neg (by omega), if_neg (by omega), take_snoc_map _ hx]
  have hr2 : ∀ k x, ac[k]? = some x → k = kk → rw' (k + 1) = rw' k ++ [nr] ++ [Ak.av x] := fun k x hx hk => by
    subst hk
    rw [hrw]
    simp only
    rw [if_pos (by omega), if_neg (by omega), take_snoc hx, List.drop_append_of_le_length (by rw [List.length_take]; omega), List.drop_of_length_le (by rw [List.length_take]; omega)]
    rfl
  have hr3 : ∀ k x, ac[k]? = some x → kk < k → rw' (k + 1) = rw' k ++ [Ak.av x] := fun k x hx hk => by
    have hkl := (List.getElem?_eq_some_iff.1 hx).1
    rw [hrw]
    simp only
    rw [if_pos (by omega), if_pos hk, take_snoc hx, List.drop_append_of_le_length (by rw [List.length_take]; omega)]
    simp
  obtain ⟨W, hWd⟩ : ∃ W, W = ac.take kk ++ [(⟨task, bs⟩ : Ak)] ++ ac.drop kk := ⟨_, rfl⟩
  have hWl : W.length = ac.length + 1 := by rw [hWd]; simp; omega
  have hWv : W.map Ak.av = (ac.take kk).map Ak.av ++ [nr] ++ (ac.drop kk).map Ak.av := by rw [hWd, List.map_append, List.map_append, hnr]; rfl
  have hr4 : kk < ac.length → rw' ac.length = W.map Ak.av := fun h => by
    rw [hWv, hrw]; simp only; rw [if_pos h, List.take_length]
  have hr5 : kk = ac.length → rw' ac.length ++ [nr] = W.map Ak.av := fun h => by
    rw [hWv, hrw]; simp only; rw [if_neg (by omega), h, List.take_length, List.drop_length]; simp
  rw [← hWd]
  have hE1 := tE45
  have hS1 := tS5
  have hB1 := tB5
  have hZ1 := tZ5
  have hE2 := tE50
  have hS2 := tS47
  have hB2 := tB47
  have hZ2 := tZ47
  obtain ⟨N, hN⟩ : ∃ N, N = l.length := ⟨_, rfl⟩
  have hlm : (l.map Pd.av).length = N := by rw [List.length_map, hN]
  rw [← hN] at hil hl2 hiI
  have hset : ∀ w : List (List AV), w = W.map Ak.av → (l.map Pd.av).set i [.c (.int .u64 num), .c (.int .i64 bg), .c (.bool sv), .l 2 w] = (l.set i ⟨num, bg, sv, W⟩).map Pd.av := fun w e => by rw [e, List.map_set]; rfl
  clear hrw hp hWv hWd
  replace hsp := Lib.hid hsp
  replace hnt := Lib.hid (hnt rfl)
  obtain ⟨DD, hDD⟩ : ∃ D, D = decide ((ac.length : Int) + 1 = c2) := ⟨_, rfl⟩
  rw [← hDD]
  have hDW : ((W.length : Int) = c2) = (DD = true) := by rw [hDD, hWl]; simp
  clear hDD
  have hWl2 : W.length ≤ 17 := by omega
  clear hWl
  replace hr1 := Lib.hid hr1
  replace hr2 := Lib.hid hr2
  replace hr3 := Lib.hid hr3
  replace hr4 := Lib.hid hr4
  replace hr5 := Lib.hid hr5
  replace hrl := Lib.hid hrl
  replace hr0 := Lib.hid hr0
  replace hnr := Lib.hid hnr
  replace hset := Lib.hid hset
  replace hN := Lib.hid hN
  refine ACall_of' Try.func42 rfl (Ent_of Try.func42 (by kernel_rfl) rfl) (by simp [Try.ntmps42]) ?_; simp only [Try.ntmps42, Try.results42]
  repeat' (first
    | refine AW_seq_kn fun K hK => ?_
    | refine AW_block ?_
    | (refine does_call rfl rfl ?_; simp only [push_cast, seval, *]; refine ACall.monoP (hat _) ?_; (try simp only [push_cast, seval, *]))
    | (refine does_call rfl rfl ?_; simp only [push_cast, seval, *]; refine ACall.monoP (hhs _) ?_; (try simp only [push_cast, seval, *]))
    | ((first
      | refine AW_region_draw (id := 8) E0 (fun f => [].contains f) dLDH0 dADH0 mixed (by kernel_rfl) ?_
      | refine AW_region_draw (id := 11) E0 (fun f => [].contains f) dLDH1 dADH1 mixed (by kernel_rfl) ?_
      | refine AW_region_draw (id := 24) E0 (fun f => [].contains f) dLDH2 dADH2 mixed (by kernel_rfl) ?_
      | refine AW_region E0 ?_ | refine AW_ret ?_ | refine AW_exit ?_ | refine AW_skip ?_ | unfold retQ); try simp only [push_cast, seval, *])
    | ((first | (apply AW_cond; (case hc => (simp only [push_cast, seval]; rfl))) | (apply ER_guard; (case hb => (simp only [push_cast, seval]; rfl)))); all_goals ((intro hc; first | (exfalso; simp only [push_cast, seval, *] at hc; done) | (exact absurd hc (by decide)) | ((try first | rw [Bool.not_true] at hc | rw [Bool.not_false] at hc); first | (with_reducible replace hc := tTT hc); clear hc | (with_reducible replace hc := tFF hc); clear hc | (have hp := hc; try simp only [decide_eq_true_eq, decide_eq_false_iff_not, bA, bB, bC, bD, bE, bF, bG, bH] at hp))) <;> try simp only [push_cast, seval, *]))
    | (refine Kn.go hK ?_; clear hK K)
    | refine Kn.go (by assumption) ?_
    | (intro n hn; (try simp only [upd_none2, join_none_iff, ite_none, ne_eq] at hn); (try simp only [push_cast, seval, *]))
    | (intro hc)
    | (apply ER_blk; (case hp => rfl); (case hb => (simp only [push_cast, seval]; rfl)); (case hd => (simp only [push_cast, seval]; done)); (case h => (intro hc; simp only [push_cast, seval, *]; rfl)); simp only [push_cast, seval, *])
    | fail)
  rename_i n1 h1 n7 h7
  generalize n = n8 at *
  have n17 : ¬ n1 = n7 := h7.1.2
  have n71 : ¬ n7 = n1 := h7.1.1
  have n78 : ¬ n7 = n8 := hn.1.2
  have n87 : ¬ n8 = n7 := hn.1.1
  have n18 : ¬ n1 = n8 := hn.2.1.2
  have n81 : ¬ n8 = n1 := hn.2.1.1
  have e1 : H n1 = none := h1
  have e7 : H n7 = none := h7.2
  have e8 : H n8 = none := hn.2.2
  obtain ⟨G, hG⟩ : ∃ G : Heap, G = upd (upd (upd H n1 (.r 30 6 1 [[.c (.int .u64 c0), .c (.int .u64 c1), .c (.int .i64 c2), .c (.int .i64 c3), .c (.int .i64 c4), .l 4 (l.map Pd.av)]])) n7 (.r 47 2 1 [[.c (.int .i64 task), .l 1 (bs.map by1)]])) n8 (.r 30 6 1 [zcl]) := ⟨_, rfl⟩
  have g1 : G n1 = some (.r 30 6 1 [[.c (.int .u64 c0), .c (.int .u64 c1), .c (.int .i64 c2), .c (.int .i64 c3), .c (.int .i64 c4), .l 4 (l.map Pd.av)]]) := by rw [hG, upd_ne n18, upd_ne n17, upd_same]
  have g7 : G n7 = some (.r 47 2 1 [[.c (.int .i64 task), .l 1 (bs.map by1)]]) := by rw [hG, upd_ne n78, upd_same]
  have g8 : G n8 = some (.r 30 6 1 [zcl]) := by rw [hG, upd_same]
  have hle : Heap.le H G := by rw [hG]; (repeat' (first | exact Heap.le_refl _ | refine hle_upd2 ?_ _ _ | (refine Heap.le_new ?_ ?_; rotate_left 1; focus (first | assumption | (simp only [upd_none2, upd_get, ne_eq, push_cast, seval, *]; done) | (simp [upd_get, *]; done)))))
  rw [show upd (upd (upd H n1 (.r 30 6 1 [[.c (.int .u64 c0), .c (.int .u64 c1), .c (.int .i64 c2), .c (.int .i64 c3), .c (.int .i64 c4), .l 4 (l.map Pd.av)]])) n7 (.r 47 2 1 [[.c (.int .i64 task), .l 1 (bs.map by1)]])) n8 (.r 30 6 1 [zcl]) = G from hG.symm]
  clear hG h1 h7 hn hat hhs
  refine does_call rfl rfl ?_
  simp only [push_cast, seval, *]
  refine ACall.mono (unhid hcb G) ?_
  rintro _ S ⟨y, rfl, ho⟩
  clear hcb
  rcases ho.split with ⟨ad, -, e, -⟩ | ⟨np, cap, rfl, rfl, hnp⟩
  · rw [e] at hlm; simp at hlm; omega
  have m1 : ¬ n1 = np := by rintro rfl; rw [hnp] at g1; cases g1
  have m7 : ¬ n7 = np := by rintro rfl; rw [hnp] at g7; cases g7
  have m8 : ¬ n8 = np := by rintro rfl; rw [hnp] at g8; cases g8
  have m1' : ¬ np = n1 := fun h => m1 h.symm
  have m7' : ¬ np = n7 := fun h => m7 h.symm
  have m8' : ¬ np = n8 := fun h => m8 h.symm
  have hHnp : H np = none := le_no hle hnp
  rw [hlm]
  have hl' := unhid hset
  obtain ⟨R, hR⟩ : ∃ R, R = l.map Pd.av := ⟨_, rfl⟩
  rw [← hR] at hlm hrow g1 hl' ⊢
  clear hset ho hR
  replace hset := Lib.hid hl'
  clear hl'
  obtain ⟨S, hS⟩ : ∃ S, S = upd (upd G np (.r 61 4 cap R)) n1 (.r 30 6 1 [[.c (.int .u64 c0), .c (.int .u64 c1), .c (.int .i64 c2), .c (.int .i64 c3), .c (.int .i64 c4), .s np 4 0 N cap]]) := ⟨_, rfl⟩
  have s1 : S n1 = some (.r 30 6 1 [[.c (.int .u64 c0), .c (.int .u64 c1), .c (.int .i64 c2), .c (.int .i64 c3), .c (.int .i64 c4), .s np 4 0 N cap]]) := by rw [hS, upd_same]
  have snp : S np = some (.r 61 4 cap R) := by rw [hS, upd_ne m1', upd_same]
  have s7 : S n7 = some (.r 47 2 1 [[.c (.int .i64 task), .l 1 (bs.map by1)]]) := by rw [hS, upd_ne n71, upd_ne m7]; exact g7
  have s8 : S n8 = some (.r 30 6 1 [zcl]) := by rw [hS, upd_ne n81, upd_ne m8]; exact g8
  have t1 : (upd G np (.r 61 4 cap R)) n1 = some (.r 30 6 1 [[.c (.int .u64 c0), .c (.int .u64 c1), .c (.int .i64 c2), .c (.int .i64 c3), .c (.int .i64 c4), .l 4 R]]) := by rw [upd_ne m1]; exact g1
  replace hle := Lib.hid hle
  replace e1 := Lib.hid e1
  replace e7 := Lib.hid e7
  replace e8 := Lib.hid e8
  simp only [zcl] at s8
  (try simp only [push_cast, seval, *])
  repeat' (first
    | (refine AW_atR (id := 11) ?_)
    | refine AW_seq_kn fun K hK => ?_
    | refine AW_block ?_
    | ((first
      | refine AW_region_draw (id := 8) E0 (fun f => [].contains f) dLDH0 dADH0 mixed (by kernel_rfl) ?_
      | refine AW_region_draw (id := 11) E0 (fun f => [].contains f) dLDH1 dADH1 mixed (by kernel_rfl) ?_
      | refine AW_region_draw (id := 24) E0 (fun f => [].contains f) dLDH2 dADH2 mixed (by kernel_rfl) ?_
      | refine AW_region E0 ?_ | refine AW_ret ?_ | refine AW_exit ?_ | refine AW_skip ?_ | unfold retQ); try simp only [push_cast, seval, *])
    | ((first | (apply AW_cond; (case hc => (simp only [push_cast, seval]; rfl))) | (apply ER_guard; (case hb => (simp only [push_cast, seval]; rfl)))); all_goals ((intro hc; first | (exfalso; simp only [push_cast, seval, *] at hc; done) | (exact absurd hc (by decide)) | ((try first | rw [Bool.not_true] at hc | rw [Bool.not_false] at hc); first | (with_reducible replace hc := tTT hc); clear hc | (with_reducible replace hc := tFF hc); clear hc | (have hp := hc; try simp only [decide_eq_true_eq, decide_eq_false_iff_not, bA, bB, bC, bD, bE, bF, bG, bH] at hp))) <;> try simp only [push_cast, seval, *]))
    | (refine Kn.go hK ?_; clear hK K)
    | refine Kn.go (by assumption) ?_
    | (intro n hn; (try simp only [upd_none2, join_none_iff, ite_none, ne_eq] at hn); (try simp only [push_cast, seval, *]))
    | (intro hc)
    | (apply ER_blk; (case hp => rfl); (case hb => (simp only [push_cast, seval]; rfl)); (case hd => (simp only [push_cast, seval]; done)); (case h => (intro hc; simp only [push_cast, seval, *]; rfl)); simp only [push_cast, seval, *])
    | fail)
  refine ⟨?_⟩
  rw [show upd (upd G np (.r 61 4 cap R)) n1 (.r 30 6 1 [[.c (.int .u64 c0), .c (.int .u64 c1), .c (.int .i64 c2), .c (.int .i64 c3), .c (.int .i64 c4), .s np 4 0 N cap]]) = S from hS.symm]
  replace hS := Lib.hid hS
  clear t1 g1 g7 g8
  have o1 := ne_old s1
  have o7 := ne_old s7
  have o8 := ne_old s8
  have op := ne_old snp
  repeat' (first
    | refine AW_seq_kn fun K hK => ?_
    | refine AW_block ?_
    | ((first
      | refine AW_region_draw (id := 8) E0 (fun f => [].contains f) dLDH0 dADH0 mixed (by kernel_rfl) ?_
      | refine AW_region_draw (id := 11) E0 (fun f => [].contains f) dLDH1 dADH1 mixed (by kernel_rfl) ?_
      | refine AW_region_draw (id := 24) E0 (fun f => [].contains f) dLDH2 dADH2 mixed (by kernel_rfl) ?_
      | refine AW_region E0 ?_ | refine AW_ret ?_ | refine AW_exit ?_ | refine AW_skip ?_ | unfold retQ); try simp only [push_cast, seval, *])
    | ((first | (apply AW_cond; (case hc => (simp only [push_cast, seval]; rfl))) | (apply ER_guard; (case hb => (simp only [push_cast, seval]; rfl)))); all_goals ((intro hc; first | (exfalso; simp only [push_cast, seval, *] at hc; done) | (exact absurd hc (by decide)) | ((try first | rw [Bool.not_true] at hc | rw [Bool.not_false] at hc); first | (with_reducible replace hc := tTT hc); clear hc | (with_reducible replace hc := tFF hc); clear hc | (have hp := hc; try simp only [decide_eq_true_eq, decide_eq_false_iff_not, bA, bB, bC, bD, bE, bF, bG, bH] at hp))) <;> try simp only [push_cast, seval, *]))
    | (refine Kn.go hK ?_; clear hK K)
    | refine Kn.go (by assumption) ?_
    | (intro n hn; (try simp only [upd_none2, join_none_iff, ite_none, ne_eq] at hn); (try simp only [push_cast, seval, *]))
    | (intro hc)
    | (apply ER_blk; (case hp => rfl); (case hb => (simp only [push_cast, seval]; rfl)); (case hd => (simp only [push_cast, seval]; done)); (case h => (intro hc; simp only [push_cast, seval, *]; rfl)); simp only [push_cast, seval, *])
    | fail)
  refine Does.frozen (ty := 5) (does_appL (news := bs.map by1) rfl rfl rfl (OwnL.fresh hn) hE1 hS1 hB1 hZ1 rfl (by decide) (by simp only [List.length_map, List.length_nil, maxLen]; omega) (by simp only [List.length_map, List.length_nil]; omega) (fun _ _ h' => h')) ?_
  rw [List.nil_append]
  clear hn
  (try simp only [push_cast, seval, *])
  repeat' (first
    | refine AW_seq_kn fun K hK => ?_
    | refine AW_block ?_
    | ((first
      | refine AW_region_draw (id := 8) E0 (fun f => [].contains f) dLDH0 dADH0 mixed (by kernel_rfl) ?_
      | refine AW_region_draw (id := 11) E0 (fun f => [].contains f) dLDH1 dADH1 mixed (by kernel_rfl) ?_
      | refine AW_region_draw (id := 24) E0 (fun f => [].contains f) dLDH2 dADH2 mixed (by kernel_rfl) ?_
      | refine AW_region E0 ?_ | refine AW_ret ?_ | refine AW_exit ?_ | refine AW_skip ?_ | unfold retQ); try simp only [push_cast, seval, *])
    | ((first | (apply AW_cond; (case hc => (simp only [push_cast, seval]; rfl))) | (apply ER_guard; (case hb => (simp only [push_cast, seval]; rfl)))); all_goals ((intro hc; first | (exfalso; simp only [push_cast, seval, *] at hc; done) | (exact absurd hc (by decide)) | ((try first | rw [Bool.not_true] at hc | rw [Bool.not_false] at hc); first | (with_reducible replace hc := tTT hc); clear hc | (with_reducible replace hc := tFF hc); clear hc | (have hp := hc; try simp only [decide_eq_true_eq, decide_eq_false_iff_not, bA, bB, bC, bD, bE, bF, bG, bH] at hp))) <;> try simp only [push_cast, seval, *]))
    | (refine Kn.go hK ?_; clear hK K)
    | refine Kn.go (by assumption) ?_
    | (intro n hn; (try simp only [upd_none2, join_none_iff, ite_none, ne_eq] at hn); (try simp only [push_cast, seval, *]))
    | (intro hc)
    | (apply ER_blk; (case hp => rfl); (case hb => (simp only [push_cast, seval]; rfl)); (case hd => (simp only [push_cast, seval]; done)); (case h => (intro hc; simp only [push_cast, seval, *]; rfl)); simp only [push_cast, seval, *])
    | fail)
  generalize n = n13 at *
  have hSn13 : S n13 = none := hn
  have p1 : ¬ n13 = n1 := of_eq_false (o1 n13 hn).2
  have p7 : ¬ n13 = n7 := of_eq_false (o7 n13 hn).2
  have p8 : ¬ n13 = n8 := of_eq_false (o8 n13 hn).2
  have pp : ¬ n13 = np := of_eq_false (op n13 hn).2
  have p1' : ¬ n1 = n13 := fun h => p1 h.symm
  have p7' : ¬ n7 = n13 := fun h => p7 h.symm
  have p8' : ¬ n8 = n13 := fun h => p8 h.symm
  have pp' : ¬ np = n13 := fun h => pp h.symm
  obtain ⟨B, hB⟩ : ∃ B, B = upd S n13 (.r 47 2 1 [[.c (.int .i64 task), .l 1 (bs.map by1)]]) := ⟨_, rfl⟩
  have b1 : B n1 = some (.r 30 6 1 [[.c (.int .u64 c0), .c (.int .u64 c1), .c (.int .i64 c2), .c (.int .i64 c3), .c (.int .i64 c4), .s np 4 0 N cap]]) := by rw [hB, upd_ne p1']; exact s1
  have bnp : B np = some (.r 61 4 cap R) := by rw [hB, upd_ne pp']; exact snp
  have b7 : B n7 = some (.r 47 2 1 [[.c (.int .i64 task), .l 1 (bs.map by1)]]) := by rw [hB, upd_ne p7']; exact s7
  have b8 : B n8 = some (.r 30 6 1 [zcl]) := by rw [hB, upd_ne p8']; exact s8
  have b13 : B n13 = some (.r 47 2 1 [[.c (.int .i64 task), .l 1 (bs.map by1)]]) := by rw [hB, upd_same]
  rw [← hB]
  have hHB : Heap.le H B := by
    rw [hB, unhid hS]
    refine le_skip (le_skip (le_skip (unhid hle) hHnp) (unhid e1)) (le_no (B := S) ?_ hSn13)
    rw [unhid hS]
    exact le_skip (le_skip (unhid hle) hHnp) (unhid e1)
  clear hS hB hn o1 o7 o8 op s1 s7 s8 snp hSn13
  replace hHB := Lib.hid hHB
  obtain ⟨dn, hdn⟩ : ∃ f : Nat → Bool, f = fun k => decide (kk < k) := ⟨_, rfl⟩
  have hdn0 : dn 0 = false := by rw [hdn]; exact decide_eq_false (by omega)
  replace hdn := Lib.hid hdn
  refine AW_loopX (σ := AV × Heap) ac.length (fun k s => OwnL s.2 s.1 47 2 (rw' k) B) (fun k s => [(4, .p n1 6 0 0), (7, .p n7 2 0 0), (8, .p n8 6 0 0), (11, ci i), (13, .p n13 2 0 0), (14, s.1), (15, .c (.bool (dn k))), (72, .l 2 (ac.map Ak.av)), (73, ci ac.length), (74, ci k)]) (fun _ s => s.2) (.c (.slice none 0 0), B) (by rw [unhid hr0]; exact OwnL.nil _ _ _) ?_ ?_ ?_ ?_
  · (first | trivial | (simp only [push_cast, seval, *]; done))
  · exact Heap.le_refl _
  · rintro k ⟨z, S⟩ hk ho
    simp only at ho
    have hx := List.getElem?_eq_getElem (l := ac) hk; generalize ac[k] = x at hx; have hxm := List.mem_of_getElem? hx; have hkl : (k : Int) < ac.length := (by omega); have hkw : IntKind.i64.wrap ((k : Int) + 1) = (k : Int) + 1 := wrap_i64 (by omega) (by omega)
    have hrlk := unhid hrl k
    have k1 := ho.get b1
    have k7 := ho.get b7
    have k13 := ho.get b13
    have o1 := ne_old k1
    have o7 := ne_old k7
    have o13 := ne_old k13
    have zcs := ho.cs
    have zone := ho.one
    have t1 := unhid hr1 k x hx
    have t2 := unhid hr2 k x hx
    have t3 := unhid hr3 k x hx
    have b1x := (unhid hsp k x hx).1
    have b2x := (unhid hsp k x hx).2
    have b3x := unhid hnt x hxm
    generalize rw' (k + 1) = R1 at *
    generalize rw' k = R0 at *
    obtain ⟨xt, xb⟩ := x
    have hxv : Ak.av ⟨xt, xb⟩ = [.c (.int .i64 xt), .l 1 (xb.map by1)] := rfl
    rw [hxv] at t1 t2 t3
    simp only at b1x b2x b3x
    replace ho := Lib.hid ho
    clear hxm
    rcases Nat.lt_trichotomy k kk with hki | hki | hki
    · have hlt : ¬ task < xt := by have := b1x hki; omega
      have d0 : dn k = false := by rw [unhid hdn]; exact decide_eq_false (by omega)
      have d1 : dn (k + 1) = false := by rw [unhid hdn]; exact decide_eq_false (by omega)
      have ht := t1 hki
      clear t1 t2 t3 b1x b2x b3x hki
      replace ht := Lib.hid ht
      repeat' (first
    | refine AW_seq_kn fun K hK => ?_
    | refine AW_block ?_
    | ((first
      | refine AW_region_draw (id := 8) E0 (fun f => [].contains f) dLDH0 dADH0 mixed (by kernel_rfl) ?_
      | refine AW_region_draw (id := 11) E0 (fun f => [].contains f) dLDH1 dADH1 mixed (by kernel_rfl) ?_
      | refine AW_region_draw (id := 24) E0 (fun f => [].contains f) dLDH2 dADH2 mixed (by kernel_rfl) ?_
      | refine AW_region E0 ?_ | refine AW_ret ?_ | refine AW_exit ?_ | refine AW_skip ?_ | unfold retQ); try simp only [push_cast, seval, *])
    | ((first | (apply AW_cond; (case hc => (simp only [push_cast, seval]; rfl))) | (apply ER_guard; (case hb => (simp only [push_cast, seval]; rfl)))); all_goals ((intro hc; first | (exfalso; simp only [push_cast, seval, *] at hc; done) | (exact absurd hc (by decide)) | ((try first | rw [Bool.not_true] at hc | rw [Bool.not_false] at hc); first | (with_reducible replace hc := tTT hc); clear hc | (with_reducible replace hc := tFF hc); clear hc | (have hp := hc; try simp only [decide_eq_true_eq, decide_eq_false_iff_not, bA, bB, bC, bD, bE, bF, bG, bH] at hp))) <;> try simp only [push_cast, seval, *]))
    | (refine Kn.go hK ?_; clear hK K)
    | refine Kn.go (by assumption) ?_
    | (intro n hn; (try simp only [upd_none2, join_none_iff, ite_none, ne_eq] at hn); (try simp only [push_cast, seval, *]))
    | (intro hc)
    | (apply ER_blk; (case hp => rfl); (case hb => (simp only [push_cast, seval]; rfl)); (case hd => (simp only [push_cast, seval]; done)); (case h => (intro hc; simp only [push_cast, seval, *]; rfl)); simp only [push_cast, seval, *])
    | fail)
      rename_i n9 h9
      refine does_app1 rfl rfl rfl rfl ((Loc.own _ _ _ _).new (unhid ho) h9 _) (by simp only [upd_none2, push_cast, seval, *]) hE2 hS2 hB2 hZ2 rfl (by decide) (by simp only [maxLen]; omega) (by omega) ?_
      intro z2 H2 hz2
      rw [← unhid ht] at hz2
      have zcs2 := hz2.cs
      have zone2 := hz2.one
      obtain ⟨H3, l1, l2⟩ := (Loc.own _ _ _ _).cut hz2 (K := B) (le_upd_new ((Loc.own _ _ _ _).old (unhid ho) h9))
      replace l1 := Lib.hid l1
      replace l2 := Lib.hid l2
      clear hz2 zcs zone ht k1 k7 k13 o1 o7 o13
      (try simp only [push_cast, seval, *])
      repeat' (first
    | refine AW_seq_kn fun K hK => ?_
    | refine AW_block ?_
    | ((first
      | refine AW_region_draw (id := 8) E0 (fun f => [].contains f) dLDH0 dADH0 mixed (by kernel_rfl) ?_
      | refine AW_region_draw (id := 11) E0 (fun f => [].contains f) dLDH1 dADH1 mixed (by kernel_rfl) ?_
      | refine AW_region_draw (id := 24) E0 (fun f => [].contains f) dLDH2 dADH2 mixed (by kernel_rfl) ?_
      | refine AW_region E0 ?_ | refine AW_ret ?_ | refine AW_exit ?_ | refine AW_skip ?_ | unfold retQ); try simp only [push_cast, seval, *])
    | ((first | (apply AW_cond; (case hc => (simp only [push_cast, seval]; rfl))) | (apply ER_guard; (case hb => (simp only [push_cast, seval]; rfl)))); all_goals ((intro hc; first | (exfalso; simp only [push_cast, seval, *] at hc; done) | (exact absurd hc (by decide)) | ((try first | rw [Bool.not_true] at hc | rw [Bool.not_false] at hc); first | (with_reducible replace hc := tTT hc); clear hc | (with_reducible replace hc := tFF hc); clear hc | (have hp := hc; try simp only [decide_eq_true_eq, decide_eq_false_iff_not, bA, bB, bC, bD, bE, bF, bG, bH] at hp))) <;> try simp only [push_cast, seval, *]))
    | (refine Kn.go hK ?_; clear hK K)
    | refine Kn.go (by assumption) ?_
    | (intro n hn; (try simp only [upd_none2, join_none_iff, ite_none, ne_eq] at hn); (try simp only [push_cast, seval, *]))
    | (intro hc)
    | (apply ER_blk; (case hp => rfl); (case hb => (simp only [push_cast, seval]; rfl)); (case hd => (simp only [push_cast, seval]; done)); (case h => (intro hc; simp only [push_cast, seval, *]; rfl)); simp only [push_cast, seval, *])
    | fail)
      exact ⟨(z2, H3), unhid l2, by (first | trivial | (simp only [push_cast, seval, *]; done)), unhid l1⟩
    · have hlt : task < xt := by have := b2x (by omega); omega
      have d0 : dn k = false := by rw [unhid hdn]; exact decide_eq_false (by omega)
      have d1 : dn (k + 1) = true := by rw [unhid hdn]; exact decide_eq_true (by omega)
      have ht := t2 hki
      rw [unhid hnr] at ht
      clear t1 t2 t3 b1x b2x b3x hki
      replace ht := Lib.hid ht
      repeat' (first
    | refine AW_seq_kn fun K hK => ?_
    | refine AW_block ?_
    | ((first
      | refine AW_region_draw (id := 8) E0 (fun f => [].contains f) dLDH0 dADH0 mixed (by kernel_rfl) ?_
      | refine AW_region_draw (id := 11) E0 (fun f => [].contains f) dLDH1 dADH1 mixed (by kernel_rfl) ?_
      | refine AW_region_draw (id := 24) E0 (fun f => [].contains f) dLDH2 dADH2 mixed (by kernel_rfl) ?_
      | refine AW_region E0 ?_ | refine AW_ret ?_ | refine AW_exit ?_ | refine AW_skip ?_ | unfold retQ); try simp only [push_cast, seval, *])
    | ((first | (apply AW_cond; (case hc => (simp only [push_cast, seval]; rfl))) | (apply ER_guard; (case hb => (simp only [push_cast, seval]; rfl)))); all_goals ((intro hc; first | (exfalso; simp only [push_cast, seval, *] at hc; done) | (exact absurd hc (by decide)) | ((try first | rw [Bool.not_true] at hc | rw [Bool.not_false] at hc); first | (with_reducible replace hc := tTT hc); clear hc | (with_reducible replace hc := tFF hc); clear hc | (have hp := hc; try simp only [decide_eq_true_eq, decide_eq_false_iff_not, bA, bB, bC, bD, bE, bF, bG, bH] at hp))) <;> try simp only [push_cast, seval, *]))
    | (refine Kn.go hK ?_; clear hK K)
    | refine Kn.go (by assumption) ?_
    | (intro n hn; (try simp only [upd_none2, join_none_iff, ite_none, ne_eq] at hn); (try simp only [push_cast, seval, *]))
    | (intro hc)
    | (apply ER_blk; (case hp => rfl); (case hb => (simp only [push_cast, seval]; rfl)); (case hd => (simp only [push_cast, seval]; done)); (case h => (intro hc; simp only [push_cast, seval, *]; rfl)); simp only [push_cast, seval, *])
    | fail)
      rename_i n9 h9
      have gn9 := (Loc.own _ _ _ _).old (unhid ho) h9
      refine does_app1 rfl rfl rfl rfl ((Loc.own _ _ _ _).new (unhid ho) h9 _) (by simp only [upd_none2, push_cast, seval, *]) hE2 hS2 hB2 hZ2 rfl (by decide) (by simp only [maxLen]; omega) (by omega) ?_
      intro z1 H1 hz1
      have y9 := hz1.get (upd_same _ n9 _)
      have zcs1 := hz1.cs
      have zone1 := hz1.one
      replace hz1 := Lib.hid hz1
      clear zcs zone hn k1 k7 k13 o1 o7 o13
      (try simp only [push_cast, seval, *])
      repeat' (first
    | refine AW_seq_kn fun K hK => ?_
    | refine AW_block ?_
    | ((first
      | refine AW_region_draw (id := 8) E0 (fun f => [].contains f) dLDH0 dADH0 mixed (by kernel_rfl) ?_
      | refine AW_region_draw (id := 11) E0 (fun f => [].contains f) dLDH1 dADH1 mixed (by kernel_rfl) ?_
      | refine AW_region_draw (id := 24) E0 (fun f => [].contains f) dLDH2 dADH2 mixed (by kernel_rfl) ?_
      | refine AW_region E0 ?_ | refine AW_ret ?_ | refine AW_exit ?_ | refine AW_skip ?_ | unfold retQ); try simp only [push_cast, seval, *])
    | ((first | (apply AW_cond; (case hc => (simp only [push_cast, seval]; rfl))) | (apply ER_guard; (case hb => (simp only [push_cast, seval]; rfl)))); all_goals ((intro hc; first | (exfalso; simp only [push_cast, seval, *] at hc; done) | (exact absurd hc (by decide)) | ((try first | rw [Bool.not_true] at hc | rw [Bool.not_false] at hc); first | (with_reducible replace hc := tTT hc); clear hc | (with_reducible replace hc := tFF hc); clear hc | (have hp := hc; try simp only [decide_eq_true_eq, decide_eq_false_iff_not, bA, bB, bC, bD, bE, bF, bG, bH] at hp))) <;> try simp only [push_cast, seval, *]))
    | (refine Kn.go hK ?_; clear hK K)
    | refine Kn.go (by assumption) ?_
    | (intro n hn; (try simp only [upd_none2, join_none_iff, ite_none, ne_eq] at hn); (try simp only [push_cast, seval, *]))
    | (intro hc)
    | (apply ER_blk; (case hp => rfl); (case hb => (simp only [push_cast, seval]; rfl)); (case hd => (simp only [push_cast, seval]; done)); (case h => (intro hc; simp only [push_cast, seval, *]; rfl)); simp only [push_cast, seval, *])
    | fail)
      refine does_app1 rfl rfl rfl rfl (unhid hz1) (by simp only [upd_none2, push_cast, seval, *]) hE2 hS2 hB2 hZ2 rfl (by decide) (by simp only [List.length_append, List.length_singleton, maxLen]; omega) (by simp only [List.length_append, List.length_singleton]; omega) ?_
      intro z2 H2 hz2
      rw [← unhid ht] at hz2
      have zcs2 := hz2.cs
      have zone2 := hz2.one
      obtain ⟨H3, l1, l2⟩ := (Loc.own _ _ _ _).cut hz2 (K := B) (le_upd_new gn9)
      replace l1 := Lib.hid l1
      replace l2 := Lib.hid l2
      clear hz2 hz1 zcs1 zone1 ht y9
      (try simp only [push_cast, seval, *])
      repeat' (first
    | refine AW_seq_kn fun K hK => ?_
    | refine AW_block ?_
    | ((first
      | refine AW_region_draw (id := 8) E0 (fun f => [].contains f) dLDH0 dADH0 mixed (by kernel_rfl) ?_
      | refine AW_region_draw (id := 11) E0 (fun f => [].contains f) dLDH1 dADH1 mixed (by kernel_rfl) ?_
      | refine AW_region_draw (id := 24) E0 (fun f => [].contains f) dLDH2 dADH2 mixed (by kernel_rfl) ?_
      | refine AW_region E0 ?_ | refine AW_ret ?_ | refine AW_exit ?_ | refine AW_skip ?_ | unfold retQ); try simp only [push_cast, seval, *])
    | ((first | (apply AW_cond; (case hc => (simp only [push_cast, seval]; rfl))) | (apply ER_guard; (case hb => (simp only [push_cast, seval]; rfl)))); all_goals ((intro hc; first | (exfalso; simp only [push_cast, seval, *] at hc; done) | (exact absurd hc (by decide)) | ((try first | rw [Bool.not_true] at hc | rw [Bool.not_false] at hc); first | (with_reducible replace hc := tTT hc); clear hc | (with_reducible replace hc := tFF hc); clear hc | (have hp := hc; try simp only [decide_eq_true_eq, decide_eq_false_iff_not, bA, bB, bC, bD, bE, bF, bG, bH] at hp))) <;> try simp only [push_cast, seval, *]))
    | (refine Kn.go hK ?_; clear hK K)
    | refine Kn.go (by assumption) ?_
    | (intro n hn; (try simp only [upd_none2, join_none_iff, ite_none, ne_eq] at hn); (try simp only [push_cast, seval, *]))
    | (intro hc)
    | (apply ER_blk; (case hp => rfl); (case hb => (simp only [push_cast, seval]; rfl)); (case hd => (simp only [push_cast, seval]; done)); (case h => (intro hc; simp only [push_cast, seval, *]; rfl)); simp only [push_cast, seval, *])
    | fail)
      exact ⟨(z2, H3), unhid l2, by (first | trivial | (simp only [push_cast, seval, *]; done)), unhid l1⟩
    · have d0 : dn k = true := by rw [unhid hdn]; exact decide_eq_true (by omega)
      have d1 : dn (k + 1) = true := by rw [unhid hdn]; exact decide_eq_true (by omega)
      have ht := t3 hki
      clear t1 t2 t3 b1x b2x b3x hki
      replace ht := Lib.hid ht
      repeat' (first
    | refine AW_seq_kn fun K hK => ?_
    | refine AW_block ?_
    | ((first
      | refine AW_region_draw (id := 8) E0 (fun f => [].contains f) dLDH0 dADH0 mixed (by kernel_rfl) ?_
      | refine AW_region_draw (id := 11) E0 (fun f => [].contains f) dLDH1 dADH1 mixed (by kernel_rfl) ?_
      | refine AW_region_draw (id := 24) E0 (fun f => [].contains f) dLDH2 dADH2 mixed (by kernel_rfl) ?_
      | refine AW_region E0 ?_ | refine AW_ret ?_ | refine AW_exit ?_ | refine AW_skip ?_ | unfold retQ); try simp only [push_cast, seval, *])
    | ((first | (apply AW_cond; (case hc => (simp only [push_cast, seval]; rfl))) | (apply ER_guard; (case hb => (simp only [push_cast, seval]; rfl)))); all_goals ((intro hc; first | (exfalso; simp only [push_cast, seval, *] at hc; done) | (exact absurd hc (by decide)) | ((try first | rw [Bool.not_true] at hc | rw [Bool.not_false] at hc); first | (with_reducible replace hc := tTT hc); clear hc | (with_reducible replace hc := tFF hc); clear hc | (have hp := hc; try simp only [decide_eq_true_eq, decide_eq_false_iff_not, bA, bB, bC, bD, bE, bF, bG, bH] at hp))) <;> try simp only [push_cast, seval, *]))
    | (refine Kn.go hK ?_; clear hK K)
    | refine Kn.go (by assumption) ?_
    | (intro n hn; (try simp only [upd_none2, join_none_iff, ite_none, ne_eq] at hn); (try simp only [push_cast, seval, *]))
    | (intro hc)
    | (apply ER_blk; (case hp => rfl); (case hb => (simp only [push_cast, seval]; rfl)); (case hd => (simp only [push_cast, seval]; done)); (case h => (intro hc; simp only [push_cast, seval, *]; rfl)); simp only [push_cast, seval, *])
    | fail)
      rename_i n9 h9
      refine does_app1 rfl rfl rfl rfl ((Loc.own _ _ _ _).new (unhid ho) h9 _) (by simp only [upd_none2, push_cast, seval, *]) hE2 hS2 hB2 hZ2 rfl (by decide) (by simp only [maxLen]; omega) (by omega) ?_
      intro z2 H2 hz2
      rw [← unhid ht] at hz2
      have zcs2 := hz2.cs
      have zone2 := hz2.one
      obtain ⟨H3, l1, l2⟩ := (Loc.own _ _ _ _).cut hz2 (K := B) (le_upd_new ((Loc.own _ _ _ _).old (unhid ho) h9))
      replace l1 := Lib.hid l1
      replace l2 := Lib.hid l2
      clear hz2 zcs zone ht k1 k7 k13 o1 o7 o13
      (try simp only [push_cast, seval, *])
      repeat' (first
    | refine AW_seq_kn fun K hK => ?_
    | refine AW_block ?_
    | ((first
      | refine AW_region_draw (id := 8) E0 (fun f => [].contains f) dLDH0 dADH0 mixed (by kernel_rfl) ?_
      | refine AW_region_draw (id := 11) E0 (fun f => [].contains f) dLDH1 dADH1 mixed (by kernel_rfl) ?_
      | refine AW_region_draw (id := 24) E0 (fun f => [].contains f) dLDH2 dADH2 mixed (by kernel_rfl) ?_
      | refine AW_region E0 ?_ | refine AW_ret ?_ | refine AW_exit ?_ | refine AW_skip ?_ | unfold retQ); try simp only [push_cast, seval, *])
    | ((first | (apply AW_cond; (case hc => (simp only [push_cast, seval]; rfl))) | (apply ER_guard; (case hb => (simp only [push_cast, seval]; rfl)))); all_goals ((intro hc; first | (exfalso; simp only [push_cast, seval, *] at hc; done) | (exact absurd hc (by decide)) | ((try first | rw [Bool.not_true] at hc | rw [Bool.not_false] at hc); first | (with_reducible replace hc := tTT hc); clear hc | (with_reducible replace hc := tFF hc); clear hc | (have hp := hc; try simp only [decide_eq_true_eq, decide_eq_false_iff_not, bA, bB, bC, bD, bE, bF, bG, bH] at hp))) <;> try simp only [push_cast, seval, *]))
    | (refine Kn.go hK ?_; clear hK K)
    | refine Kn.go (by assumption) ?_
    | (intro n hn; (try simp only [upd_none2, join_none_iff, ite_none, ne_eq] at hn); (try simp only [push_cast, seval, *]))
    | (intro hc)
    | (apply ER_blk; (case hp => rfl); (case hb => (simp only [push_cast, seval]; rfl)); (case hd => (simp only [push_cast, seval]; done)); (case h => (intro hc; simp only [push_cast, seval, *]; rfl)); simp only [push_cast, seval, *])
    | fail)
      exact ⟨(z2, H3), unhid l2, by (first | trivial | (simp only [push_cast, seval, *]; done)), unhid l1⟩
  · rintro ⟨z, S⟩ ho
    simp only at ho
    have hrlk := unhid hrl ac.length
    have k1 := ho.get b1
    have k13 := ho.get b13
    have zcs := ho.cs
    have zone := ho.one
    have d5 := unhid hr5
    have d4 := unhid hr4
    have hHnew : ∀ Z : List (List AV), Heap.le (upd H np (.r 61 4 cap Z)) (upd B np (.r 61 4 cap Z)) := fun Z => le_both' (unhid hHB)
    have hst := unhid hset
    have hRs : (l.set i (⟨num, bg, sv, W⟩ : Pd)).length = N := by rw [List.length_set]; exact (unhid hN).symm
    rcases Nat.lt_or_ge kk ac.length with hia | hia
    · have dk : dn ac.length = true := by rw [unhid hdn]; exact decide_eq_true hia
      rw [d4 hia] at ho
      repeat' (first
    | (refine AW_atR (id := 23) ?_)
    | refine AW_seq_kn fun K hK => ?_
    | refine AW_block ?_
    | ((first
      | refine AW_region_draw (id := 8) E0 (fun f => [].contains f) dLDH0 dADH0 mixed (by kernel_rfl) ?_
      | refine AW_region_draw (id := 11) E0 (fun f => [].contains f) dLDH1 dADH1 mixed (by kernel_rfl) ?_
      | refine AW_region_draw (id := 24) E0 (fun f => [].contains f) dLDH2 dADH2 mixed (by kernel_rfl) ?_
      | refine AW_region E0 ?_ | refine AW_ret ?_ | refine AW_exit ?_ | refine AW_skip ?_ | unfold retQ); try simp only [push_cast, seval, *])
    | ((first | (apply AW_cond; (case hc => (simp only [push_cast, seval]; rfl))) | (apply ER_guard; (case hb => (simp only [push_cast, seval]; rfl)))); all_goals ((intro hc; first | (exfalso; simp only [push_cast, seval, *] at hc; done) | (exact absurd hc (by decide)) | ((try first | rw [Bool.not_true] at hc | rw [Bool.not_false] at hc); first | (with_reducible replace hc := tTT hc); clear hc | (with_reducible replace hc := tFF hc); clear hc | (have hp := hc; try simp only [decide_eq_true_eq, decide_eq_false_iff_not, bA, bB, bC, bD, bE, bF, bG, bH] at hp))) <;> try simp only [push_cast, seval, *]))
    | (refine Kn.go hK ?_; clear hK K)
    | refine Kn.go (by assumption) ?_
    | (intro n hn; (try simp only [upd_none2, join_none_iff, ite_none, ne_eq] at hn); (try simp only [push_cast, seval, *]))
    | (intro hc)
    | (apply ER_blk; (case hp => rfl); (case hb => (simp only [push_cast, seval]; rfl)); (case hd => (simp only [push_cast, seval]; done)); (case h => (intro hc; simp only [push_cast, seval, *]; rfl)); simp only [push_cast, seval, *])
    | fail)
      refine ⟨?_⟩
      refine AW_own (H' := B) ho [(4, .p n1 6 0 0), (8, .p n8 6 0 0), (11, ci i), (14, .l 2 (W.map Ak.av))] (by ((try simp only [SlO, push_cast, seval, *]); done)) (Heap.le_refl _) ?_
      clear k1 k13 zcs zone ho d5 d4
      replace hHnew := Lib.hid hHnew
      replace hst := Lib.hid hst
      obtain ⟨WW, hWW⟩ : ∃ WW, WW = W.map Ak.av := ⟨_, rfl⟩
      have hWWl : WW.length = W.length := by rw [hWW, List.length_map]
      rw [← hWW]
      replace hWW := Lib.hid hWW
      simp only [zcl] at b8
      repeat' (first
    | refine AW_seq_kn fun K hK => ?_
    | refine AW_block ?_
    | ((first
      | refine AW_region_draw (id := 8) E0 (fun f => [].contains f) dLDH0 dADH0 mixed (by kernel_rfl) ?_
      | refine AW_region_draw (id := 11) E0 (fun f => [].contains f) dLDH1 dADH1 mixed (by kernel_rfl) ?_
      | refine AW_region_draw (id := 24) E0 (fun f => [].contains f) dLDH2 dADH2 mixed (by kernel_rfl) ?_
      | refine AW_region E0 ?_ | refine AW_ret ?_ | refine AW_exit ?_ | refine AW_skip ?_ | unfold retQ); try simp only [push_cast, seval, *])
    | ((first | (apply AW_cond; (case hc => (simp only [push_cast, seval]; rfl))) | (apply ER_guard; (case hb => (simp only [push_cast, seval]; rfl)))); all_goals ((intro hc; first | (exfalso; simp only [push_cast, seval, *] at hc; done) | (exact absurd hc (by decide)) | ((try first | rw [Bool.not_true] at hc | rw [Bool.not_false] at hc); first | (with_reducible replace hc := tTT hc); clear hc | (with_reducible replace hc := tFF hc); clear hc | (have hp := hc; try simp only [decide_eq_true_eq, decide_eq_false_iff_not, bA, bB, bC, bD, bE, bF, bG, bH] at hp))) <;> try simp only [push_cast, seval, *]))
    | (refine Kn.go hK ?_; clear hK K)
    | refine Kn.go (by assumption) ?_
    | (intro n hn; (try simp only [upd_none2, join_none_iff, ite_none, ne_eq] at hn); (try simp only [push_cast, seval, *]))
    | (intro hc)
    | (apply ER_blk; (case hp => rfl); (case hb => (simp only [push_cast, seval]; rfl)); (case hd => (simp only [push_cast, seval]; done)); (case h => (intro hc; simp only [push_cast, seval, *]; rfl)); simp only [push_cast, seval, *])
    | fail)
      rw [unhid hst WW (unhid hWW)]
      refine ⟨_, H, Weak.trans (Weak.less (H' := upd H np (.r 61 4 cap ((l.set i (⟨num, bg, sv, W⟩ : Pd)).map Pd.av))) (le_skip (unhid hHnew _) (by rw [upd_ne m8]; exact unhid e8))) (own_c3 (c := ⟨c0, c1, c2, c3, c4, l.set i ⟨num, bg, sv, W⟩⟩) (OwnL.at (by rw [List.length_map, hRs]) hHnp) (fun F => Imp.refl (Mem.le.refl F) _)), rfl, rfl⟩
    · have dk : dn ac.length = false := by rw [unhid hdn]; exact decide_eq_false (by omega)
      have hia2 := d5 (by omega)
      rw [unhid hnr] at hia2
      generalize rw' ac.length = R0 at *
      have o13 := ne_old k13
      replace ho := Lib.hid ho
      replace hia2 := Lib.hid hia2
      clear d5 d4
      replace hHnew := Lib.hid hHnew
      replace hst := Lib.hid hst
      simp only [zcl] at b8
      repeat' (first
    | refine AW_seq_kn fun K hK => ?_
    | refine AW_block ?_
    | ((first
      | refine AW_region_draw (id := 8) E0 (fun f => [].contains f) dLDH0 dADH0 mixed (by kernel_rfl) ?_
      | refine AW_region_draw (id := 11) E0 (fun f => [].contains f) dLDH1 dADH1 mixed (by kernel_rfl) ?_
      | refine AW_region_draw (id := 24) E0 (fun f => [].contains f) dLDH2 dADH2 mixed (by kernel_rfl) ?_
      | refine AW_region E0 ?_ | refine AW_ret ?_ | refine AW_exit ?_ | refine AW_skip ?_ | unfold retQ); try simp only [push_cast, seval, *])
    | ((first | (apply AW_cond; (case hc => (simp only [push_cast, seval]; rfl))) | (apply ER_guard; (case hb => (simp only [push_cast, seval]; rfl)))); all_goals ((intro hc; first | (exfalso; simp only [push_cast, seval, *] at hc; done) | (exact absurd hc (by decide)) | ((try first | rw [Bool.not_true] at hc | rw [Bool.not_false] at hc); first | (with_reducible replace hc := tTT hc); clear hc | (with_reducible replace hc := tFF hc); clear hc | (have hp := hc; try simp only [decide_eq_true_eq, decide_eq_false_iff_not, bA, bB, bC, bD, bE, bF, bG, bH] at hp))) <;> try simp only [push_cast, seval, *]))
    | (refine Kn.go hK ?_; clear hK K)
    | refine Kn.go (by assumption) ?_
    | (intro n hn; (try simp only [upd_none2, join_none_iff, ite_none, ne_eq] at hn); (try simp only [push_cast, seval, *]))
    | (intro hc)
    | (apply ER_blk; (case hp => rfl); (case hb => (simp only [push_cast, seval]; rfl)); (case hd => (simp only [push_cast, seval]; done)); (case h => (intro hc; simp only [push_cast, seval, *]; rfl)); simp only [push_cast, seval, *])
    | fail)
      refine does_app1 rfl rfl rfl rfl (unhid ho) (by simp only [upd_none2, push_cast, seval, *]) hE2 hS2 hB2 hZ2 rfl (by decide) (by simp only [maxLen]; omega) (by omega) ?_
      intro z2 H2 hz2
      rw [unhid hia2] at hz2
      have zcs2 := hz2.cs
      have zone2 := hz2.one
      clear zcs zone ho o13 k13 k1 hia2
      obtain ⟨WW, hWW⟩ : ∃ WW, WW = W.map Ak.av := ⟨_, rfl⟩
      have hWWl : WW.length = W.length := by rw [hWW, List.length_map]
      rw [← hWW] at hz2
      replace hWW := Lib.hid hWW
      replace hz2 := Lib.hid hz2
      (try simp only [push_cast, seval, *])
      repeat' (first
    | (refine AW_atR (id := 23) ?_)
    | refine AW_seq_kn fun K hK => ?_
    | refine AW_block ?_
    | ((first
      | refine AW_region_draw (id := 8) E0 (fun f => [].contains f) dLDH0 dADH0 mixed (by kernel_rfl) ?_
      | refine AW_region_draw (id := 11) E0 (fun f => [].contains f) dLDH1 dADH1 mixed (by kernel_rfl) ?_
      | refine AW_region_draw (id := 24) E0 (fun f => [].contains f) dLDH2 dADH2 mixed (by kernel_rfl) ?_
      | refine AW_region E0 ?_ | refine AW_ret ?_ | refine AW_exit ?_ | refine AW_skip ?_ | unfold retQ); try simp only [push_cast, seval, *])
    | ((first | (apply AW_cond; (case hc => (simp only [push_cast, seval]; rfl))) | (apply ER_guard; (case hb => (simp only [push_cast, seval]; rfl)))); all_goals ((intro hc; first | (exfalso; simp only [push_cast, seval, *] at hc; done) | (exact absurd hc (by decide)) | ((try first | rw [Bool.not_true] at hc | rw [Bool.not_false] at hc); first | (with_reducible replace hc := tTT hc); clear hc | (with_reducible replace hc := tFF hc); clear hc | (have hp := hc; try simp only [decide_eq_true_eq, decide_eq_false_iff_not, bA, bB, bC, bD, bE, bF, bG, bH] at hp))) <;> try simp only [push_cast, seval, *]))
    | (refine Kn.go hK ?_; clear hK K)
    | refine Kn.go (by assumption) ?_
    | (intro n hn; (try simp only [upd_none2, join_none_iff, ite_none, ne_eq] at hn); (try simp only [push_cast, seval, *]))
    | (intro hc)
    | (apply ER_blk; (case hp => rfl); (case hb => (simp only [push_cast, seval]; rfl)); (case hd => (simp only [push_cast, seval]; done)); (case h => (intro hc; simp only [push_cast, seval, *]; rfl)); simp only [push_cast, seval, *])
    | fail)
      refine ⟨?_⟩
      refine AW_own (H' := B) (unhid hz2) [(4, .p n1 6 0 0), (8, .p n8 6 0 0), (11, ci i), (14, .l 2 WW)] (by ((try simp only [SlO, push_cast, seval, *]); done)) (Heap.le_refl _) ?_
      clear hz2 zcs2 zone2
      repeat' (first
    | refine AW_seq_kn fun K hK => ?_
    | refine AW_block ?_
    | ((first
      | refine AW_region_draw (id := 8) E0 (fun f => [].contains f) dLDH0 dADH0 mixed (by kernel_rfl) ?_
      | refine AW_region_draw (id := 11) E0 (fun f => [].contains f) dLDH1 dADH1 mixed (by kernel_rfl) ?_
      | refine AW_region_draw (id := 24) E0 (fun f => [].contains f) dLDH2 dADH2 mixed (by kernel_rfl) ?_
      | refine AW_region E0 ?_ | refine AW_ret ?_ | refine AW_exit ?_ | refine AW_skip ?_ | unfold retQ); try simp only [push_cast, seval, *])
    | ((first | (apply AW_cond; (case hc => (simp only [push_cast, seval]; rfl))) | (apply ER_guard; (case hb => (simp only [push_cast, seval]; rfl)))); all_goals ((intro hc; first | (exfalso; simp only [push_cast, seval, *] at hc; done) | (exact absurd hc (by decide)) | ((try first | rw [Bool.not_true] at hc | rw [Bool.not_false] at hc); first | (with_reducible replace hc := tTT hc); clear hc | (with_reducible replace hc := tFF hc); clear hc | (have hp := hc; try simp only [decide_eq_true_eq, decide_eq_false_iff_not, bA, bB, bC, bD, bE, bF, bG, bH] at hp))) <;> try simp only [push_cast, seval, *]))
    | (refine Kn.go hK ?_; clear hK K)
    | refine Kn.go (by assumption) ?_
    | (intro n hn; (try simp only [upd_none2, join_none_iff, ite_none, ne_eq] at hn); (try simp only [push_cast, seval, *]))
    | (intro hc)
    | (apply ER_blk; (case hp => rfl); (case hb => (simp only [push_cast, seval]; rfl)); (case hd => (simp only [push_cast, seval]; done)); (case h => (intro hc; simp only [push_cast, seval, *]; rfl)); simp only [push_cast, seval, *])
    | fail)
      rw [unhid hst WW (unhid hWW)]
      refine ⟨_, H, Weak.trans (Weak.less (H' := upd H np (.r 61 4 cap ((l.set i (⟨num, bg, sv, W⟩ : Pd)).map Pd.av))) (le_skip (unhid hHnew _) (by rw [upd_ne m8]; exact unhid e8))) (own_c3 (c := ⟨c0, c1, c2, c3, c4, l.set i ⟨num, bg, sv, W⟩⟩) (OwnL.at (by rw [List.length_map, hRs]) hHnp) (fun F => Imp.refl (Mem.le.refl F) _)), rfl, rfl⟩
end Go.Proofs.Ytlbdpnlmdcajbaa
