/- Walks: a transaction is opened. -/
import Derived.Test.YtdeckjoeggmagaaF
import Derived.Test.YtdeckjoeggmagaaIN
namespace Go.Proofs.Ytdeckjoeggmagaa
open Go.RowKit
open Nat renaming reduceEqDiff → nA, reduceLT → nB, reduceLeDiff → nC, reduceAdd → nD, reduceMul → nE, reduceSub → nF, reduceBEq → nG
open Int renaming reduceToNat → iA, reduceLT → iB, reduceLE → iC, reduceEq → iD
open Bool renaming and_eq_true → bA, or_eq_true → bB, or_eq_false_iff → bC, and_eq_false_iff → bD, not_eq_true' → bE, not_eq_false' → bF, not_true → bG, not_false → bH
set_option linter.all false
set_option maxHeartbeats 4000000
attribute [local irreducible] AW Does ACall tE tS tB tZ
def dLG0 : List En := [(0, false, []), (1, false, []), (2, false, []), (3, false, []), (4, false, []), (5, false, []), (6, false, []), (7, false, []), (8, false, []), (9, false, []), (10, false, [])]
def dAG0 : List (List Nat) := [[], [0], [0, 1], [0, 1, 2], [], [0, 1, 2, 3, 4], [0, 1, 2, 3, 4, 5], [0, 1, 2, 3, 4, 5, 6], [0, 1, 2, 3, 4, 5, 6], [0, 1, 2, 3, 4, 5, 6, 7], [0, 1, 2, 3, 4, 5, 6, 7, 8, 9]]
attribute [push_cast] dLG0
def dLG1 : List En := [(0, false, []), (1, false, []), (2, false, []), (3, false, []), (4, false, []), (5, false, []), (6, false, []), (7, false, []), (8, false, []), (9, false, [])]
def dAG1 : List (List Nat) := [[], [0], [0, 1], [0, 1, 2], [0, 1, 2, 3], [0, 1, 2, 3, 4], [0, 1], [0, 1, 2, 3, 4, 5, 6], [0, 1, 2, 3, 4, 5, 6, 7], [0, 1, 2, 3, 4, 5, 6, 7, 8]]
attribute [push_cast] dLG1
def dLG2 : List En := [(0, false, []), (1, false, []), (2, false, []), (3, false, []), (4, false, []), (5, false, []), (6, false, []), (7, false, []), (8, false, []), (9, false, []), (10, false, []), (11, false, []), (12, false, [])]
def dAG2 : List (List Nat) := [[], [], [1], [1, 2], [1, 2, 3], [], [], [6], [6, 7], [1, 2, 3, 4, 5, 6, 7, 8], [0, 1, 2, 3, 4, 5, 6, 7, 8, 9], [0, 1, 2, 3, 4, 5, 6, 7, 8, 9, 10], [0, 1, 2, 3, 4, 5, 6, 7, 8, 9, 10, 11]]
attribute [push_cast] dLG2
set_option maxRecDepth 5000

def wRes (l : Lg) (ns : List Nm) (e : Int) (l' : Lg) : Lg × Int := if lgOk l = false then (zeroL, 260) else if ns.all nmOk = false then (zeroL, 2) else if e = 0 then (l', 0) else (zeroL, e)
/-- what a change of a log leaves -/
def PostG (e : Int) (l' : Lg) (J : Heap → Prop) (nb : Nat) (A' : Heap) : Prop := (e = 0 ∧ ∃ y1 y2 y3 G', J G' ∧ G' nb = none ∧ OwnG y1 y2 y3 l' A' (upd G' nb (bxL y1 y2 y3))) ∨ (¬ e = 0 ∧ ∃ G', J G' ∧ Heap.le G' A')
theorem PostG.bad {e : Int} {l' : Lg} {J : Heap → Prop} {nb : Nat} {A' G : Heap} (he : ¬ e = 0) (hJ : J G) (hl : Heap.le G A') : PostG e l' J nb A' := .inr ⟨he, G, hJ, hl⟩
theorem with_all (l : Lg) (hf : l.fits) (ns : List Nm) (hns : ns.length ≤ maxLen) (gf : FuncId) (caps : List AV) (G : Heap) (e : Int) (l' : Lg) (J : Heap → Prop) (hJ0 : (lgOk l = false ∨ ns.all nmOk = false) → J G)
    (h : lgOk l = true → ns.all nmOk = true → ∀ x1 x2 x3 A nb, G nb = none → OwnG x1 x2 x3 l A (upd G nb (bxL x1 x2 x3)) → ACall Try.prog gf ([.p nb 3 0 0] ++ caps) A fun r A' => r = .c (.int .i64 e) ∧ PostG e l' J nb A') :
    ACall Try.prog 75 [.g (Lg.av l), .f (.func gf) [] caps, .l 3 (ns.map Nm.av)] G fun r H' => ∃ y1 y2 y3 G', r = .t [gl y1 y2 y3, .c (.int .i64 (wRes l ns e l').2)] ∧ OwnG y1 y2 y3 (wRes l ns e l').1 H' G' ∧ J G' := by
  unfold wRes
  cases hok : lgOk l
  · refine (with_no l hf ns hok gf caps G).mono ?_
    rintro r H' ⟨rfl, rfl⟩
    exact ⟨_, _, _, H', rfl, OwnG_nil _, hJ0 (.inl hok)⟩
  · cases hno : ns.all nmOk
    · refine (with_nm l hf ns hns hok hno gf caps G).mono ?_
      rintro r H' ⟨rfl, rfl⟩
      simp only [Bool.true_eq_false, if_false, if_true]
      exact ⟨_, _, _, H', rfl, OwnG_nil _, hJ0 (.inr hno)⟩
    · refine (with_g l hf ns hns hok hno gf caps G e l' J (h hok hno)).mono ?_
      rintro r H' (⟨he, y1, y2, y3, G', rfl, hJ, ho⟩ | ⟨he, rfl, hJ⟩)
      · simp only [he, if_true, Bool.true_eq_false, if_false]; exact ⟨y1, y2, y3, G', rfl, ho, hJ⟩
      · simp only [he, Bool.true_eq_false, if_false]; exact ⟨_, _, _, H', rfl, OwnG_nil _, hJ⟩
def atI (l : List Tx) (v : Nm) : Nat := lbd (fun x => decide (cmpN x.nm v < 0)) l
def atB (l : List Tx) (v : Nm) : Bool := bsF (fun x => cmpN x.nm v) l
def RiseT (l : List Tx) : Prop := l.Pairwise fun x y => cmpN x.nm y.nm < 0
theorem txsOk_rise : ∀ (l : List Tx) (p : Option Nm) (met : List Nm), txsOk p met l = true → RiseT l ∧ ∀ y, p = some y → ∀ x ∈ l, cmpN y x.nm < 0
  | [], p, met, _ => ⟨List.Pairwise.nil, fun y _ x hx => by cases hx⟩
  | x :: l, p, met, h => by
    simp only [txsOk, Bool.and_eq_true] at h
    obtain ⟨⟨⟨_, h2⟩, _⟩, h4⟩ := h
    obtain ⟨i1, i2⟩ := txsOk_rise l _ _ h4
    refine ⟨List.Pairwise.cons (fun y hy => i2 x.nm rfl y hy) i1, fun y hy z hz => ?_⟩
    subst hy
    have h0 : cmpN y x.nm < 0 := of_decide_eq_true h2
    rcases List.mem_cons.1 hz with rfl | hz
    · exact h0
    · have h1 := i2 x.nm rfl z hz
      rw [cmpN_neg] at h0 h1 ⊢
      omega
theorem lgOk_rise {l : Lg} (h : lgOk l = true) : RiseT l.txs := by
  simp only [lgOk, Bool.and_eq_true] at h
  exact (txsOk_rise _ _ _ h.2.1).1
theorem rise_mono {l : List Tx} (h : RiseT l) (v : Nm) : ∀ (i j : Nat) (x y : Tx), i < j → l[i]? = some x → l[j]? = some y → cmpN y.nm v < 0 → cmpN x.nm v < 0 := fun i j x y hij hx hy hc => by
  obtain ⟨hi, rfl⟩ := List.getElem?_eq_some_iff.1 hx
  obtain ⟨hj, rfl⟩ := List.getElem?_eq_some_iff.1 hy
  have h1 := List.pairwise_iff_getElem.1 h i j hi hj hij
  rw [cmpN_neg] at h1 hc ⊢
  omega
theorem at_l {l : List Tx} (hl : l.length ≤ 1000000) (hr : RiseT l) (v : Nm) {x : AV} {A : Heap} (hx : Lent A x (.l 5 (l.map Tx.av))) :
    ACall Try.prog 78 [x, .g (Nm.av v)] A fun r H' => r = .t [.c (.int .i64 (atI l v : Nat)), .c (.bool (atB l v))] ∧ H' = A :=
  ACall.lend (args' := [.l 5 (l.map Tx.av), .g (Nm.av v)]) (Flat.t (by intro w hw; simp only [List.mem_cons, List.not_mem_nil, or_false] at hw; rcases hw with rfl | rfl <;> exact Flat.c _)) (Lents.two hx (Lent.refl _ _)) ((at_p l hl v (rise_mono hr v)).cl)
theorem has_l {l : List Nm} (hl : l.length ≤ maxLen) (v : Nm) {x : AV} {A : Heap} (hx : Lent A x (.l 3 (l.map Nm.av))) :
    ACall Try.prog 47 [x, .g (Nm.av v)] A fun r H' => r = .c (.bool (decide (v ∈ l))) ∧ H' = A :=
  ACall.lend (args' := [.l 3 (l.map Nm.av), .g (Nm.av v)]) (Flat.c _) (Lents.two hx (Lent.refl _ _)) ((hasN_p l hl v).cl)
def openE (l : Lg) (v : Nm) : Int := if atB l.txs v = true then 5 else if v ∈ l.done then 5 else if l.txs.length = 24 then 6 else 0
def openL (l : Lg) (v : Nm) : Lg := { l with txs := l.txs.take (atI l.txs v) ++ [⟨v, 1, []⟩] ++ l.txs.drop (atI l.txs v) }
theorem open1_a (l : Lg) (hok : lgOk l = true) (v : Nm) (x1 x2 x3 : AV) (A : Heap) (nb : Nat) (G : Heap) (hnb : G nb = none) (h : OwnG x1 x2 x3 l A (upd G nb (bxL x1 x2 x3))) :
    ACall Try.prog 90 ([.p nb 3 0 0] ++ [.q (Nm.av v) 0]) A fun r A' => r = .c (.int .i64 (openE l v)) ∧ PostG (openE l v) (openL l v) (fun G' => G' = G) nb A' := by
  obtain ⟨hb1, hb2, hb3, -, hb5⟩ := lgOk_bd hok
  have kb := (OwnG_loc x1 x2 x3 l).get h (upd_same _ _ _)
  obtain ⟨⟨u1, u2, u3⟩, v1, v2, v3⟩ := OwnG_cs h
  obtain ⟨w1, w2, w3⟩ := OwnG_len h
  obtain ⟨e1, e2, e3⟩ := OwnG_lents h
  have hle : Heap.le G A := Heap.le_trans (le_upd_new hnb) ((OwnG_loc x1 x2 x3 l).le h)
  have hat := at_l (by omega) (lgOk_rise hok) v e1
  have hct := has_l (by unfold maxLen; omega) v e2
  have hi : atI l.txs v ≤ l.txs.length := lbd_le _ _
  have hE : openE l v = if atB l.txs v = true then 5 else if v ∈ l.done then 5 else if l.txs.length = 24 then 6 else 0 := rfl
  obtain ⟨N, hN⟩ : ∃ N, N = openL l v := ⟨_, rfl⟩
  rw [← hN]
  unfold openL at hN
  generalize openE l v = E at *
  generalize atI l.txs v = i at *
  generalize atB l.txs v = B at *
  have hbad : ¬ E = 0 → ∀ l', PostG E l' (fun G' => G' = G) nb A := fun he l' => .bad he rfl hle
  obtain ⟨a, b, c⟩ := l
  simp only at hE hi hb1 hb2 hb3 w1 w2 w3 hat hct hN
  replace hN := Lib.hid hN
  obtain ⟨vs, va, vn⟩ := v
  have hnv : Nm.av ⟨vs, va, vn⟩ = [.c (.int .i64 vs), .c (.int .i64 va), .c (.int .i64 vn)] := rfl
  simp only [hnv] at hat hct ⊢
  have ob := ne_old kb
  clear e1 e2 e3 hb5 hok
  replace hbad := Lib.hid hbad
  replace h := Lib.hid h
  cases B
  rotate_left
  · rw [if_pos rfl] at hE
    subst hE
    clear hct
    refine ACall_of' Try.func90 rfl (Ent_of Try.func90 (by kernel_rfl) rfl) (by simp [Try.ntmps90]) ?_; simp only [Try.ntmps90, Try.results90]
    repeat' (first
    | refine AW_seq_kn fun K hK => ?_
    | refine AW_block ?_
    | (refine does_call rfl rfl ?_; simp only [push_cast, seval, *]; refine ACall.mono hat ?_; (rintro _ _ ⟨rfl, e2⟩; have e3 := e2.symm; clear e2; subst e3); (try simp only [push_cast, seval, *]))
    | ((first
      | refine AW_region_draw (id := 1) E0 (fun f => [].contains f) dLG0 dAG0 mixed (by kernel_rfl) ?_
      | refine AW_region_draw (id := 2) E0 (fun f => [].contains f) dLG1 dAG1 mixed (by kernel_rfl) ?_
      | refine AW_region_draw (id := 6) E0 (fun f => [].contains f) dLG2 dAG2 mixed (by kernel_rfl) ?_
      | refine AW_region E0 ?_ | refine AW_ret ?_ | refine AW_exit ?_ | refine AW_skip ?_ | unfold retQ); try simp only [push_cast, seval, *])
    | ((first | (apply AW_cond; (case hc => (simp only [push_cast, seval]; rfl))) | (apply ER_guard; (case hb => (simp only [push_cast, seval]; rfl)))); all_goals ((intro hc; first | (exfalso; simp only [push_cast, seval, *] at hc; done) | (exact absurd hc (by decide)) | ((try first | rw [Bool.not_true] at hc | rw [Bool.not_false] at hc); first | (with_reducible replace hc := tTT hc); clear hc | (with_reducible replace hc := tFF hc); clear hc | (have hp := hc; try simp only [decide_eq_true_eq, decide_eq_false_iff_not, bA, bB, bC, bD, bE, bF, bG, bH] at hp))) <;> try simp only [push_cast, seval, *]))
    | (refine Kn.go hK ?_; clear hK K)
    | refine Kn.go (by assumption) ?_
    | (intro n hn; (try simp only [upd_none2, join_none_iff, ite_none, ne_eq] at hn); (try simp only [push_cast, seval, *]))
    | (intro hc)
    | (apply ER_blk; (case hp => rfl); (case hb => (simp only [push_cast, seval]; rfl)); (case hd => (simp only [push_cast, seval]; done)); (case h => (intro hc; simp only [push_cast, seval, *]; rfl)); simp only [push_cast, seval, *])
    | fail)
    exact ⟨_, _, Weak.refl _ _, rfl, unhid hbad (by decide) _⟩
  rw [if_neg (by decide)] at hE
  by_cases hv : (⟨vs, va, vn⟩ : Nm) ∈ b
  · rw [if_pos hv] at hE
    subst hE
    rw [decide_eq_true hv] at hct
    clear hv
    refine ACall_of' Try.func90 rfl (Ent_of Try.func90 (by kernel_rfl) rfl) (by simp [Try.ntmps90]) ?_; simp only [Try.ntmps90, Try.results90]
    repeat' (first
    | refine AW_seq_kn fun K hK => ?_
    | refine AW_block ?_
    | (refine does_call rfl rfl ?_; simp only [push_cast, seval, *]; refine ACall.mono hat ?_; (rintro _ _ ⟨rfl, e2⟩; have e3 := e2.symm; clear e2; subst e3); (try simp only [push_cast, seval, *]))
    | (refine does_call rfl rfl ?_; simp only [push_cast, seval, *]; refine ACall.mono hct ?_; (rintro _ _ ⟨rfl, e2⟩; have e3 := e2.symm; clear e2; subst e3); (try simp only [push_cast, seval, *]))
    | ((first
      | refine AW_region_draw (id := 1) E0 (fun f => [].contains f) dLG0 dAG0 mixed (by kernel_rfl) ?_
      | refine AW_region_draw (id := 2) E0 (fun f => [].contains f) dLG1 dAG1 mixed (by kernel_rfl) ?_
      | refine AW_region_draw (id := 6) E0 (fun f => [].contains f) dLG2 dAG2 mixed (by kernel_rfl) ?_
      | refine AW_region E0 ?_ | refine AW_ret ?_ | refine AW_exit ?_ | refine AW_skip ?_ | unfold retQ); try simp only [push_cast, seval, *])
    | ((first | (apply AW_cond; (case hc => (simp only [push_cast, seval]; rfl))) | (apply ER_guard; (case hb => (simp only [push_cast, seval]; rfl)))); all_goals ((intro hc; first | (exfalso; simp only [push_cast, seval, *] at hc; done) | (exact absurd hc (by decide)) | ((try first | rw [Bool.not_true] at hc | rw [Bool.not_false] at hc); first | (with_reducible replace hc := tTT hc); clear hc | (with_reducible replace hc := tFF hc); clear hc | (have hp := hc; try simp only [decide_eq_true_eq, decide_eq_false_iff_not, bA, bB, bC, bD, bE, bF, bG, bH] at hp))) <;> try simp only [push_cast, seval, *]))
    | (refine Kn.go hK ?_; clear hK K)
    | refine Kn.go (by assumption) ?_
    | (intro n hn; (try simp only [upd_none2, join_none_iff, ite_none, ne_eq] at hn); (try simp only [push_cast, seval, *]))
    | (intro hc)
    | (apply ER_blk; (case hp => rfl); (case hb => (simp only [push_cast, seval]; rfl)); (case hd => (simp only [push_cast, seval]; done)); (case h => (intro hc; simp only [push_cast, seval, *]; rfl)); simp only [push_cast, seval, *])
    | fail)
    exact ⟨_, _, Weak.refl _ _, rfl, unhid hbad (by decide) _⟩
  rw [if_neg hv] at hE
  rw [decide_eq_false hv] at hct
  clear hv
  by_cases h24 : a.length = 24
  · rw [if_pos h24] at hE
    subst hE
    have h24I : (a.length : Int) = 24 := by omega
    replace h24 := Lib.hid h24
    refine ACall_of' Try.func90 rfl (Ent_of Try.func90 (by kernel_rfl) rfl) (by simp [Try.ntmps90]) ?_; simp only [Try.ntmps90, Try.results90]
    repeat' (first
    | refine AW_seq_kn fun K hK => ?_
    | refine AW_block ?_
    | (refine does_call rfl rfl ?_; simp only [push_cast, seval, *]; refine ACall.mono hat ?_; (rintro _ _ ⟨rfl, e2⟩; have e3 := e2.symm; clear e2; subst e3); (try simp only [push_cast, seval, *]))
    | (refine does_call rfl rfl ?_; simp only [push_cast, seval, *]; refine ACall.mono hct ?_; (rintro _ _ ⟨rfl, e2⟩; have e3 := e2.symm; clear e2; subst e3); (try simp only [push_cast, seval, *]))
    | ((first
      | refine AW_region_draw (id := 1) E0 (fun f => [].contains f) dLG0 dAG0 mixed (by kernel_rfl) ?_
      | refine AW_region_draw (id := 2) E0 (fun f => [].contains f) dLG1 dAG1 mixed (by kernel_rfl) ?_
      | refine AW_region_draw (id := 6) E0 (fun f => [].contains f) dLG2 dAG2 mixed (by kernel_rfl) ?_
      | refine AW_region E0 ?_ | refine AW_ret ?_ | refine AW_exit ?_ | refine AW_skip ?_ | unfold retQ); try simp only [push_cast, seval, *])
    | ((first | (apply AW_cond; (case hc => (simp only [push_cast, seval]; rfl))) | (apply ER_guard; (case hb => (simp only [push_cast, seval]; rfl)))); all_goals ((intro hc; first | (exfalso; simp only [push_cast, seval, *] at hc; done) | (exact absurd hc (by decide)) | ((try first | rw [Bool.not_true] at hc | rw [Bool.not_false] at hc); first | (with_reducible replace hc := tTT hc); clear hc | (with_reducible replace hc := tFF hc); clear hc | (have hp := hc; try simp only [decide_eq_true_eq, decide_eq_false_iff_not, bA, bB, bC, bD, bE, bF, bG, bH] at hp))) <;> try simp only [push_cast, seval, *]))
    | (refine Kn.go hK ?_; clear hK K)
    | refine Kn.go (by assumption) ?_
    | (intro n hn; (try simp only [upd_none2, join_none_iff, ite_none, ne_eq] at hn); (try simp only [push_cast, seval, *]))
    | (intro hc)
    | (apply ER_blk; (case hp => rfl); (case hb => (simp only [push_cast, seval]; rfl)); (case hd => (simp only [push_cast, seval]; done)); (case h => (intro hc; simp only [push_cast, seval, *]; rfl)); simp only [push_cast, seval, *])
    | fail)
    exact ⟨_, _, Weak.refl _ _, rfl, unhid hbad (by decide) _⟩
  rw [if_neg h24] at hE
  subst hE
  have h24I : ¬ (a.length : Int) = 24 := by omega
  clear hbad
  obtain ⟨A1, ⟨L, hLl, A0, o1, o2⟩, A2, o3, o4⟩ := unhid h
  simp only at hLl o3 o4
  have hLn : L.length = a.length := by rw [← hLl]; simp
  have hrl : (L.map encX).length ≤ 1000000 := by rw [List.length_map]; omega
  have hri : i ≤ (L.map encX).length := by rw [List.length_map]; omega
  have q2 := (Loc.own _ _ _ _).get o4 (upd_same _ _ _)
  have q1 := (Loc.own _ _ _ _).get o3 q2
  have q0 := (Loc.chain RX_loc L).get o2 q1
  replace o1 := Lib.hid o1
  replace o2 := Lib.hid o2
  replace o3 := Lib.hid o3
  replace o4 := Lib.hid o4
  replace q0 := Lib.hid q0
  replace q1 := Lib.hid q1
  replace q2 := Lib.hid q2
  replace hLl := Lib.hid hLl
  clear h24 h
  refine ACall_of' Try.func90 rfl (Ent_of Try.func90 (by kernel_rfl) rfl) (by simp [Try.ntmps90]) ?_; simp only [Try.ntmps90, Try.results90]
  repeat' (first
    | refine AW_seq_kn fun K hK => ?_
    | refine AW_block ?_
    | (refine does_call rfl rfl ?_; simp only [push_cast, seval, *]; refine ACall.mono hat ?_; (rintro _ _ ⟨rfl, e2⟩; have e3 := e2.symm; clear e2; subst e3); (try simp only [push_cast, seval, *]))
    | (refine does_call rfl rfl ?_; simp only [push_cast, seval, *]; refine ACall.mono hct ?_; (rintro _ _ ⟨rfl, e2⟩; have e3 := e2.symm; clear e2; subst e3); (try simp only [push_cast, seval, *]))
    | (refine does_call rfl rfl ?_; simp only [push_cast, seval, *]; refine ACall.mono (tins_o ((Loc.own _ _ _ _).new (unhid o1) hn _) (upd_same _ _ _) hri hrl) ?_; intro y H' hy; have hm0 := (Loc.own _ _ _ _).old (unhid o1) hn; rw [del_upd_same hm0] at hy; have kb' := hy.get (unhid q0); have hycs := hy.cs; have hyone := hy.one; (try simp only [push_cast, seval, *]))
    | ((first
      | refine AW_region_draw (id := 1) E0 (fun f => [].contains f) dLG0 dAG0 mixed (by kernel_rfl) ?_
      | refine AW_region_draw (id := 2) E0 (fun f => [].contains f) dLG1 dAG1 mixed (by kernel_rfl) ?_
      | refine AW_region_draw (id := 6) E0 (fun f => [].contains f) dLG2 dAG2 mixed (by kernel_rfl) ?_
      | refine AW_region E0 ?_ | refine AW_ret ?_ | refine AW_exit ?_ | refine AW_skip ?_ | unfold retQ); try simp only [push_cast, seval, *])
    | ((first | (apply AW_cond; (case hc => (simp only [push_cast, seval]; rfl))) | (apply ER_guard; (case hb => (simp only [push_cast, seval]; rfl)))); all_goals ((intro hc; first | (exfalso; simp only [push_cast, seval, *] at hc; done) | (exact absurd hc (by decide)) | ((try first | rw [Bool.not_true] at hc | rw [Bool.not_false] at hc); first | (with_reducible replace hc := tTT hc); clear hc | (with_reducible replace hc := tFF hc); clear hc | (have hp := hc; try simp only [decide_eq_true_eq, decide_eq_false_iff_not, bA, bB, bC, bD, bE, bF, bG, bH] at hp))) <;> try simp only [push_cast, seval, *]))
    | (refine Kn.go hK ?_; clear hK K)
    | refine Kn.go (by assumption) ?_
    | (intro n hn; (try simp only [upd_none2, join_none_iff, ite_none, ne_eq] at hn); (try simp only [push_cast, seval, *]))
    | (intro hc)
    | (apply ER_blk; (case hp => rfl); (case hb => (simp only [push_cast, seval]; rfl)); (case hd => (simp only [push_cast, seval]; done)); (case h => (intro hc; simp only [push_cast, seval, *]; rfl)); simp only [push_cast, seval, *])
    | fail)
  have t1 := hy.turn (unhid q0) (bxL y x2 x3)
  have t2 := (Loc.chain RX_loc L).turn (unhid o2) (unhid q1) (bxL y x2 x3)
  have t3 := (Loc.own _ _ _ _).turn (unhid o3) (unhid q2) (bxL y x2 x3)
  have t4 := (Loc.own _ _ _ _).turn (unhid o4) (upd_same _ _ _) (bxL y x2 x3)
  rw [upd_upd] at t4
  refine ⟨_, _, Weak.refl _ _, rfl, .inl ⟨rfl, y, x2, x3, G, rfl, hnb, ?_⟩⟩
  rw [unhid hN]
  refine ⟨_, ⟨L.take i ++ [(.c (.slice none 0 0), ⟨⟨vs, va, vn⟩, 1, []⟩)] ++ L.drop i, ?_, _, ?_, Chain.ins RX_loc (a := (⟨⟨vs, va, vn⟩, 1, []⟩ : Tx)) (OwnL.nil _ _ _) t2⟩, _, t3, t4⟩
  · have := unhid hLl
    simp only [List.map_append, List.map_take, List.map_drop, this]; rfl
  · have e : (L.take i ++ [((.c (.slice none 0 0) : AV), (⟨⟨vs, va, vn⟩, 1, []⟩ : Tx))] ++ L.drop i).map encX = (L.map encX).take i ++ [[.c (.int .i64 vs), .c (.int .i64 va), .c (.int .i64 vn), .c (.int .i64 1), .c (.slice none 0 0)]] ++ (L.map encX).drop i := by
      simp only [List.map_append, List.map_take, List.map_drop]; rfl
    rw [e]
    exact t1
end Go.Proofs.Ytdeckjoeggmagaa
