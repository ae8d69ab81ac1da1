/- Walks: a transaction is made ready, or written to. -/
import Derived.Test.YtdeckjoeggmagaaG
namespace Go.Proofs.Ytdeckjoeggmagaa
open Go.RowKit
open Nat renaming reduceEqDiff → nA, reduceLT → nB, reduceLeDiff → nC, reduceAdd → nD, reduceMul → nE, reduceSub → nF, reduceBEq → nG
open Int renaming reduceToNat → iA, reduceLT → iB, reduceLE → iC, reduceEq → iD
open Bool renaming and_eq_true → bA, or_eq_true → bB, or_eq_false_iff → bC, and_eq_false_iff → bD, not_eq_true' → bE, not_eq_false' → bF, not_true → bG, not_false → bH
set_option linter.all false
set_option maxHeartbeats 4000000
attribute [local irreducible] AW Does ACall tE tS tB tZ
def dLI0 : List En := [(0, false, []), (1, false, []), (2, false, []), (3, false, []), (4, false, []), (5, false, []), (6, false, []), (7, false, []), (8, false, []), (9, false, []), (10, false, [])]
def dAI0 : List (List Nat) := [[], [0], [0, 1], [0, 1, 2], [], [0, 1, 2, 3, 4], [0, 1, 2, 3, 4, 5], [0, 1, 2, 3, 4, 5, 6], [0, 1, 2, 3, 4, 5, 6], [0, 1, 2, 3, 4, 5, 6, 7], [0, 1, 2, 3, 4, 5, 6, 7, 8, 9]]
attribute [push_cast] dLI0
def dLI1 : List En := [(0, false, []), (1, false, []), (2, false, []), (4, true, []), (5, false, []), (3, false, [4]), (6, false, []), (7, false, []), (8, false, [])]
def dAI1 : List (List Nat) := [[], [0], [0, 1], [0, 1, 2], [], [4], [0, 1, 2, 3, 4, 5], [0, 1, 2, 3, 4, 5, 6], [0, 1, 2, 3, 4, 5, 6, 7]]
attribute [push_cast] dLI1
def dLI2 : List En := [(0, false, []), (1, false, []), (2, false, []), (3, true, []), (4, false, []), (5, false, []), (6, false, []), (7, false, []), (8, false, []), (9, false, []), (10, false, []), (11, false, []), (12, false, []), (13, false, []), (14, false, [3]), (15, false, []), (16, false, []), (17, false, [])]
def dAI2 : List (List Nat) := [[], [0], [0, 1], [0, 1, 2], [], [], [5], [5, 6], [5, 6, 7], [], [5, 6, 7, 8, 9], [5, 6, 7, 8, 9, 10], [5, 6, 7, 8, 9, 10, 11], [], [5, 6, 7, 8, 9, 10, 11, 12, 13], [0, 1, 2, 3, 4, 5, 6, 7, 8, 9, 10, 11, 12, 13, 14], [0, 1, 2, 3, 4, 5, 6, 7, 8, 9, 10, 11, 12, 13, 14, 15], [0, 1, 2, 3, 4, 5, 6, 7, 8, 9, 10, 11, 12, 13, 14, 15, 16]]
attribute [push_cast] dLI2
set_option maxRecDepth 5000

theorem at_true {l : List Tx} {v : Nm} (h : atB l v = true) : ∃ x, l[atI l v]? = some x ∧ x.nm = v := by
  unfold atB at h
  cases hx : l[atI l v]? with
  | none => rw [bsF_none (i := atI l v) rfl hx] at h; cases h
  | some x =>
    rw [bsF_some (i := atI l v) rfl hx] at h
    exact ⟨x, rfl, cmpN_zero.1 (of_decide_eq_true h)⟩
def txAt (l : List Tx) (v : Nm) : Tx := (l[atI l v]?).getD ⟨v, 0, []⟩
def readyE (l : Lg) (v : Nm) : Int := if atB l.txs v = false then 4 else 0
def readyL (l : Lg) (v : Nm) : Lg := { l with txs := l.txs.set (atI l.txs v) { txAt l.txs v with st := 2 } }
/-- one transaction of one's own, opened -/
theorem OwnX_open {x : AV} {a : List Tx} {A A1 : Heap} (h : OwnX x a A A1) {i : Nat} {t : Tx} (hi : a[i]? = some t) : ∃ (np cap : Nat) (L : List (AV × Tx)) (y : AV) (A0 : Heap), x = .s np 5 0 a.length cap ∧ A = upd A0 np (.r 86 5 cap (L.map encX)) ∧ A0 np = none ∧ L.map Prod.snd = a ∧ L[i]? = some (y, t) ∧ (L.map encX)[i]? = some (encX (y, t)) ∧ Chain RX L A0 A1 := by
  obtain ⟨L, hLl, A0, o1, o2⟩ := h
  have hl : i < L.length := by have := (List.getElem?_eq_some_iff.1 hi).1; rw [← hLl] at this; simpa using this
  have hLL : a.length = L.length := by rw [← hLl]; simp
  have hq : (L[i]?).map Prod.snd = some t := by rw [← List.getElem?_map, hLl]; exact hi
  obtain ⟨⟨y, t'⟩, hq1, rfl⟩ := Option.map_eq_some_iff.1 hq
  rcases o1.split with ⟨ad, -, e, -⟩ | ⟨np, cap, rfl, rfl, hnp⟩
  · rw [List.map_eq_nil_iff.1 e] at hl; simp at hl
  · exact ⟨np, cap, L, y, A0, by rw [List.length_map, hLL], rfl, hnp, hLl, hq1, by rw [List.getElem?_map, hq1]; rfl, o2⟩
theorem Chain_set {L : List (AV × Tx)} {i : Nat} {y : AV} {t t' : Tx} {A0 A1 : Heap} (h : Chain RX L A0 A1) (hi : L[i]? = some (y, t)) (he : t'.rs = t.rs) : Chain RX (L.set i (y, t')) A0 A1 := by
  obtain ⟨H1, h1, h2⟩ := Chain.pick RX_loc h hi
  exact Chain.put RX_loc (a := t') (by unfold RX at h1 ⊢; rw [he]; exact h1) h2 (List.getElem?_eq_some_iff.1 hi).1
theorem set_enc {L : List (AV × Tx)} {i : Nat} {p : AV × Tx} {row : List AV} (h : row = encX p) : (L.map encX).set i row = (L.set i p).map encX := by rw [List.map_set, h]
theorem set_snd {L : List (AV × Tx)} {a : List Tx} {i : Nat} {y : AV} {t : Tx} (h : L.map Prod.snd = a) : (L.set i (y, t)).map Prod.snd = a.set i t := by rw [List.map_set, h]
theorem ready1_a (l : Lg) (hok : lgOk l = true) (v : Nm) (x1 x2 x3 : AV) (A : Heap) (nb : Nat) (G : Heap) (hnb : G nb = none) (h : OwnG x1 x2 x3 l A (upd G nb (bxL x1 x2 x3))) :
    ACall Try.prog 97 ([.p nb 3 0 0] ++ [.q (Nm.av v) 0]) A fun r A' => r = .c (.int .i64 (readyE l v)) ∧ PostG (readyE l v) (readyL l v) (fun G' => G' = G) nb A' := by
  obtain ⟨hb1, hb2, hb3, -, hb5⟩ := lgOk_bd hok
  have kb := (OwnG_loc x1 x2 x3 l).get h (upd_same _ _ _)
  obtain ⟨⟨u1, u2, u3⟩, v1, v2, v3⟩ := OwnG_cs h
  obtain ⟨w1, w2, w3⟩ := OwnG_len h
  obtain ⟨e1, e2, e3⟩ := OwnG_lents h
  have hle : Heap.le G A := Heap.le_trans (le_upd_new hnb) ((OwnG_loc x1 x2 x3 l).le h)
  have hat := at_l (by omega) (lgOk_rise hok) v e1
  have hE : readyE l v = if atB l.txs v = false then 4 else 0 := rfl
  have htr := fun h => at_true (l := l.txs) (v := v) h
  obtain ⟨N, hN⟩ : ∃ N, N = readyL l v := ⟨_, rfl⟩
  rw [← hN]
  unfold readyL txAt at hN
  generalize readyE l v = E at *
  generalize atI l.txs v = i at *
  generalize atB l.txs v = B at *
  have hbad : ¬ E = 0 → ∀ l', PostG E l' (fun G' => G' = G) nb A := fun he l' => .bad he rfl hle
  obtain ⟨a, b, c⟩ := l
  simp only at hE hb1 hb2 hb3 w1 w2 w3 hat hN htr
  obtain ⟨vs, va, vn⟩ := v
  have hnv : Nm.av ⟨vs, va, vn⟩ = [.c (.int .i64 vs), .c (.int .i64 va), .c (.int .i64 vn)] := rfl
  simp only [hnv] at hat ⊢
  have ob := ne_old kb
  clear e1 e2 e3 hb5 hok
  cases B
  · rw [if_pos rfl] at hE
    subst hE
    replace hN := Lib.hid hN
    replace hbad := Lib.hid hbad
    replace h := Lib.hid h
    clear htr
    refine ACall_of' Try.func97 rfl (Ent_of Try.func97 (by kernel_rfl) rfl) (by simp [Try.ntmps97]) ?_; simp only [Try.ntmps97, Try.results97]
    repeat' (first
    | refine AW_seq_kn fun K hK => ?_
    | refine AW_block ?_
    | (refine does_call rfl rfl ?_; simp only [push_cast, seval, *]; refine ACall.mono hat ?_; (rintro _ _ ⟨rfl, e2⟩; have e3 := e2.symm; clear e2; subst e3); (try simp only [push_cast, seval, *]))
    | ((first
      | refine AW_region_draw (id := 1) E0 (fun f => [].contains f) dLI0 dAI0 mixed (by kernel_rfl) ?_
      | refine AW_region E0 ?_ | refine AW_ret ?_ | refine AW_exit ?_ | refine AW_skip ?_ | unfold retQ); try simp only [push_cast, seval, *])
    | (apply AW_cond; (case hc => (simp only [push_cast, seval]; rfl)); all_goals (intro hc; first | (exfalso; simp only [push_cast, seval, *] at hc; done) | (exact absurd hc (by decide)) | ((try first | rw [Bool.not_true] at hc | rw [Bool.not_false] at hc); first | (with_reducible replace hc := tTT hc); clear hc | (with_reducible replace hc := tFF hc); clear hc | (have hp := hc; try simp only [decide_eq_true_eq, decide_eq_false_iff_not, bA, bB, bC, bD, bE, bF, bG, bH] at hp))))
    | (refine Kn.go hK ?_; clear hK K)
    | refine Kn.go (by assumption) ?_
    | (intro n hn; (try simp only [upd_none2, join_none_iff, ite_none, ne_eq] at hn); (try simp only [push_cast, seval, *]))
    | (intro hc)
    | fail)
    exact ⟨_, _, Weak.refl _ _, rfl, unhid hbad (by decide) _⟩
  rw [if_neg (by decide)] at hE
  subst hE
  clear hbad
  obtain ⟨t, ht, htn⟩ := htr rfl
  rw [ht] at hN
  simp only [Option.getD_some] at hN
  obtain ⟨A1, ho, A2, o3, o4⟩ := h
  simp only at ho o3 o4
  obtain ⟨np, cap, L, y, A0, rfl, rfl, hnp, hLl, hLi, hRi, hch⟩ := OwnX_open ho ht
  have q2 := (Loc.own _ _ _ _).get o4 (upd_same _ _ _)
  have q1 := (Loc.own _ _ _ _).get o3 q2
  have q0 := (Loc.chain RX_loc L).get hch q1
  have m1 : ¬ nb = np := by rintro rfl; rw [hnp] at q0; cases q0
  have m2 : ¬ np = nb := fun e => m1 e.symm
  have hiI : (i : Int) < a.length := by have := (List.getElem?_eq_some_iff.1 ht).1; omega
  have hRl : (L.map encX).length = a.length := by rw [← hLl]; simp
  obtain ⟨⟨ts, ta, tn⟩, tst, trs⟩ := t
  have hset : ∀ row, row = encX (y, (⟨⟨ts, ta, tn⟩, 2, trs⟩ : Tx)) → (L.map encX).set i row = (L.set i (y, (⟨⟨ts, ta, tn⟩, 2, trs⟩ : Tx))).map encX := fun row h => set_enc h
  simp only [encX] at hRi
  obtain ⟨R, hR⟩ : ∃ R, R = L.map encX := ⟨_, rfl⟩
  rw [← hR] at hat hRi hRl hset kb ob
  rw [← hR]
  replace hset := Lib.hid hset
  replace hR := Lib.hid hR
  replace hN := Lib.hid hN
  replace hch := Lib.hid hch
  replace o3 := Lib.hid o3
  replace o4 := Lib.hid o4
  replace q0 := Lib.hid q0
  replace q1 := Lib.hid q1
  replace q2 := Lib.hid q2
  replace hLl := Lib.hid hLl
  replace hLi := Lib.hid hLi
  clear ho htn ht w1 htr
  refine ACall_of' Try.func97 rfl (Ent_of Try.func97 (by kernel_rfl) rfl) (by simp [Try.ntmps97]) ?_; simp only [Try.ntmps97, Try.results97]
  repeat' (first
    | refine AW_seq_kn fun K hK => ?_
    | refine AW_block ?_
    | (refine does_call rfl rfl ?_; simp only [push_cast, seval, *]; refine ACall.mono hat ?_; (rintro _ _ ⟨rfl, e2⟩; have e3 := e2.symm; clear e2; subst e3); (try simp only [push_cast, seval, *]))
    | ((first
      | refine AW_region_draw (id := 1) E0 (fun f => [].contains f) dLI0 dAI0 mixed (by kernel_rfl) ?_
      | refine AW_region E0 ?_ | refine AW_ret ?_ | refine AW_exit ?_ | refine AW_skip ?_ | unfold retQ); try simp only [push_cast, seval, *])
    | (apply AW_cond; (case hc => (simp only [push_cast, seval]; rfl)); all_goals (intro hc; first | (exfalso; simp only [push_cast, seval, *] at hc; done) | (exact absurd hc (by decide)) | ((try first | rw [Bool.not_true] at hc | rw [Bool.not_false] at hc); first | (with_reducible replace hc := tTT hc); clear hc | (with_reducible replace hc := tFF hc); clear hc | (have hp := hc; try simp only [decide_eq_true_eq, decide_eq_false_iff_not, bA, bB, bC, bD, bE, bF, bG, bH] at hp))))
    | (refine Kn.go hK ?_; clear hK K)
    | refine Kn.go (by assumption) ?_
    | (intro n hn; (try simp only [upd_none2, join_none_iff, ite_none, ne_eq] at hn); (try simp only [push_cast, seval, *]))
    | (intro hc)
    | fail)
  refine ⟨_, _, Weak.refl _ _, rfl, .inl ⟨rfl, .s np 5 0 a.length cap, x2, x3, G, rfl, hnb, ?_⟩⟩
  rw [unhid hN, unhid hset [.c (.int .i64 ts), .c (.int .i64 ta), .c (.int .i64 tn), .c (.int .i64 2), y] rfl]
  have hl2 : a.length = ((L.set i (y, (⟨⟨ts, ta, tn⟩, 2, trs⟩ : Tx))).map encX).length := by rw [← unhid hLl]; simp
  exact ⟨A1, ⟨L.set i (y, ⟨⟨ts, ta, tn⟩, 2, trs⟩), set_snd (unhid hLl), A0, OwnL.at hl2 hnp, Chain_set (unhid hch) (unhid hLi) rfl⟩, A2, unhid o3, unhid o4⟩
def writeE (l : Lg) (v : Nm) (more : List Rec) : Int := if atB l.txs v = false then 4 else if (txAt l.txs v).st = 2 then 261 else if (more.any fun r => !recOk r) = true then 150 else if 400 < sizeS l + more.length then 6 else 0
def writeL (l : Lg) (v : Nm) (more : List Rec) : Lg := { l with txs := l.txs.set (atI l.txs v) { txAt l.txs v with rs := (txAt l.txs v).rs ++ more } }
theorem write1_a (l : Lg) (hok : lgOk l = true) (v : Nm) (more : List Rec) (hm : more.length ≤ 1000000) (x1 x2 x3 : AV) (A : Heap) (nb : Nat) (G : Heap) (hnb : G nb = none) (h : OwnG x1 x2 x3 l A (upd G nb (bxL x1 x2 x3))) :
    ACall Try.prog 96 ([.p nb 3 0 0] ++ [.q (Nm.av v) 0, .q [.l 3 (more.map Rec.av)] 0]) A fun r A' => r = .c (.int .i64 (writeE l v more)) ∧ PostG (writeE l v more) (writeL l v more) (fun G' => G' = G) nb A' := by
  obtain ⟨hb1, hb2, hb3, hb4, hb5⟩ := lgOk_bd hok
  have kb := (OwnG_loc x1 x2 x3 l).get h (upd_same _ _ _)
  obtain ⟨⟨u1, u2, u3⟩, v1, v2, v3⟩ := OwnG_cs h
  obtain ⟨w1, w2, w3⟩ := OwnG_len h
  obtain ⟨e1, e2, e3⟩ := OwnG_lents h
  have hle : Heap.le G A := Heap.le_trans (le_upd_new hnb) ((OwnG_loc x1 x2 x3 l).le h)
  have hat := at_l (by omega) (lgOk_rise hok) v e1
  have hsz : ACall Try.prog 83 [gl x1 x2 x3] A fun r H' => r = .c (.int .i64 (sizeS l : Nat)) ∧ H' = A :=
    ACall.lend (args' := [.g (Lg.av l)]) (Flat.c _) (Lents.one (OwnG_lent h)) ((size_p l (by omega) (by unfold maxLen; omega)).cl)
  have hwr := wrong_p more (by unfold maxLen; omega)
  have hE : writeE l v more = if atB l.txs v = false then 4 else if (txAt l.txs v).st = 2 then 261 else if (more.any fun r => !recOk r) = true then 150 else if 400 < sizeS l + more.length then 6 else 0 := rfl
  have htr := fun h => at_true (l := l.txs) (v := v) h
  obtain ⟨N, hN⟩ : ∃ N, N = writeL l v more := ⟨_, rfl⟩
  rw [← hN]
  unfold writeL at hN
  unfold txAt at hN hE
  generalize (more.any fun r => !recOk r) = W at *
  generalize sizeS l = S at *
  generalize writeE l v more = E at *
  generalize atI l.txs v = i at *
  generalize atB l.txs v = B at *
  have hbad : ¬ E = 0 → ∀ l', PostG E l' (fun G' => G' = G) nb A := fun he l' => .bad he rfl hle
  obtain ⟨a, b, c⟩ := l
  simp only at hE hb1 hb2 hb3 hb5 w1 w2 w3 hat hN htr
  obtain ⟨vs, va, vn⟩ := v
  have hnv : Nm.av ⟨vs, va, vn⟩ = [.c (.int .i64 vs), .c (.int .i64 va), .c (.int .i64 vn)] := rfl
  simp only [hnv] at hat ⊢
  have ob := ne_old kb
  clear e1 e2 e3 hok
  cases B
  · rw [if_pos rfl] at hE
    subst hE
    replace hN := Lib.hid hN
    replace hbad := Lib.hid hbad
    replace h := Lib.hid h
    clear htr hsz hwr hb5
    refine ACall_of' Try.func96 rfl (Ent_of Try.func96 (by kernel_rfl) rfl) (by simp [Try.ntmps96]) ?_; simp only [Try.ntmps96, Try.results96]
    repeat' (first
    | refine AW_seq_kn fun K hK => ?_
    | refine AW_block ?_
    | (refine does_call rfl rfl ?_; simp only [push_cast, seval, *]; refine ACall.mono hat ?_; (rintro _ _ ⟨rfl, e2⟩; have e3 := e2.symm; clear e2; subst e3); (try simp only [push_cast, seval, *]))
    | ((first
      | refine AW_region_draw (id := 1) E0 (fun f => [].contains f) dLI0 dAI0 mixed (by kernel_rfl) ?_
      | refine AW_region_draw (id := 8) E0 (fun f => [].contains f) dLI1 dAI1 mixed (by kernel_rfl) ?_
      | refine AW_region_draw (id := 10) E0 (fun f => [].contains f) dLI2 dAI2 mixed (by kernel_rfl) ?_
      | refine AW_region E0 ?_ | refine AW_ret ?_ | refine AW_exit ?_ | refine AW_skip ?_ | unfold retQ); try simp only [push_cast, seval, *])
    | (apply AW_cond; (case hc => (simp only [push_cast, seval]; rfl)); all_goals (intro hc; first | (exfalso; simp only [push_cast, seval, *] at hc; done) | (exact absurd hc (by decide)) | ((try first | rw [Bool.not_true] at hc | rw [Bool.not_false] at hc); first | (with_reducible replace hc := tTT hc); clear hc | (with_reducible replace hc := tFF hc); clear hc | (have hp := hc; try simp only [decide_eq_true_eq, decide_eq_false_iff_not, bA, bB, bC, bD, bE, bF, bG, bH] at hp))))
    | (refine Kn.go hK ?_; clear hK K)
    | refine Kn.go (by assumption) ?_
    | (intro n hn; (try simp only [upd_none2, join_none_iff, ite_none, ne_eq] at hn); (try simp only [push_cast, seval, *]))
    | (intro hc)
    | fail)
    exact ⟨_, _, Weak.refl _ _, rfl, unhid hbad (by decide) _⟩
  rw [if_neg (by decide)] at hE
  obtain ⟨t, ht, htn⟩ := htr rfl
  rw [ht] at hN hE
  simp only [Option.getD_some] at hN hE
  have hbt := hb5 t (List.mem_of_getElem? ht)
  obtain ⟨A1, ho, A2, o3, o4⟩ := h
  simp only at ho o3 o4
  obtain ⟨np, cap, L, y, A0, rfl, rfl, hnp, hLl, hLi, hRi, hch⟩ := OwnX_open ho ht
  have q2 := (Loc.own _ _ _ _).get o4 (upd_same _ _ _)
  have q1 := (Loc.own _ _ _ _).get o3 q2
  have q0 := (Loc.chain RX_loc L).get hch q1
  have m1 : ¬ nb = np := by rintro rfl; rw [hnp] at q0; cases q0
  have m2 : ¬ np = nb := fun e => m1 e.symm
  have hiI : (i : Int) < a.length := by have := (List.getElem?_eq_some_iff.1 ht).1; omega
  have hRl : (L.map encX).length = a.length := by rw [← hLl]; simp
  obtain ⟨⟨ts, ta, tn⟩, tst, trs⟩ := t
  simp only at hbt hE hN
  simp only [encX] at hRi
  obtain ⟨R, hR⟩ : ∃ R, R = L.map encX := ⟨_, rfl⟩
  rw [← hR] at hat hRi hRl kb ob hsz hle hbad
  rw [← hR]
  replace hR := Lib.hid hR
  replace hN := Lib.hid hN
  replace hch := Lib.hid hch
  replace o3 := Lib.hid o3
  replace o4 := Lib.hid o4
  replace q0 := Lib.hid q0
  replace q1 := Lib.hid q1
  replace q2 := Lib.hid q2
  replace hLl := Lib.hid hLl
  replace hLi := Lib.hid hLi
  replace hbad := Lib.hid hbad
  clear ho htn ht w1 htr hb5
  by_cases hst : tst = 2
  · rw [if_pos hst] at hE
    subst hE
    clear hsz hwr
    refine ACall_of' Try.func96 rfl (Ent_of Try.func96 (by kernel_rfl) rfl) (by simp [Try.ntmps96]) ?_; simp only [Try.ntmps96, Try.results96]
    repeat' (first
    | refine AW_seq_kn fun K hK => ?_
    | refine AW_block ?_
    | (refine does_call rfl rfl ?_; simp only [push_cast, seval, *]; refine ACall.mono hat ?_; (rintro _ _ ⟨rfl, e2⟩; have e3 := e2.symm; clear e2; subst e3); (try simp only [push_cast, seval, *]))
    | ((first
      | refine AW_region_draw (id := 1) E0 (fun f => [].contains f) dLI0 dAI0 mixed (by kernel_rfl) ?_
      | refine AW_region_draw (id := 8) E0 (fun f => [].contains f) dLI1 dAI1 mixed (by kernel_rfl) ?_
      | refine AW_region_draw (id := 10) E0 (fun f => [].contains f) dLI2 dAI2 mixed (by kernel_rfl) ?_
      | refine AW_region E0 ?_ | refine AW_ret ?_ | refine AW_exit ?_ | refine AW_skip ?_ | unfold retQ); try simp only [push_cast, seval, *])
    | (apply AW_cond; (case hc => (simp only [push_cast, seval]; rfl)); all_goals (intro hc; first | (exfalso; simp only [push_cast, seval, *] at hc; done) | (exact absurd hc (by decide)) | ((try first | rw [Bool.not_true] at hc | rw [Bool.not_false] at hc); first | (with_reducible replace hc := tTT hc); clear hc | (with_reducible replace hc := tFF hc); clear hc | (have hp := hc; try simp only [decide_eq_true_eq, decide_eq_false_iff_not, bA, bB, bC, bD, bE, bF, bG, bH] at hp))))
    | (refine Kn.go hK ?_; clear hK K)
    | refine Kn.go (by assumption) ?_
    | (intro n hn; (try simp only [upd_none2, join_none_iff, ite_none, ne_eq] at hn); (try simp only [push_cast, seval, *]))
    | (intro hc)
    | fail)
    exact ⟨_, _, Weak.refl _ _, rfl, unhid hbad (by decide) _⟩
  rw [if_neg hst] at hE
  cases W
  rotate_left
  · rw [if_pos rfl] at hE
    subst hE
    clear hsz
    refine ACall_of' Try.func96 rfl (Ent_of Try.func96 (by kernel_rfl) rfl) (by simp [Try.ntmps96]) ?_; simp only [Try.ntmps96, Try.results96]
    repeat' (first
    | refine AW_seq_kn fun K hK => ?_
    | refine AW_block ?_
    | (refine does_call rfl rfl ?_; simp only [push_cast, seval, *]; refine ACall.mono hat ?_; (rintro _ _ ⟨rfl, e2⟩; have e3 := e2.symm; clear e2; subst e3); (try simp only [push_cast, seval, *]))
    | (refine does_call rfl rfl ?_; simp only [push_cast, seval, *]; refine ACall.monoP (hwr _) ?_; (try simp only [push_cast, seval, *]))
    | ((first
      | refine AW_region_draw (id := 1) E0 (fun f => [].contains f) dLI0 dAI0 mixed (by kernel_rfl) ?_
      | refine AW_region_draw (id := 8) E0 (fun f => [].contains f) dLI1 dAI1 mixed (by kernel_rfl) ?_
      | refine AW_region_draw (id := 10) E0 (fun f => [].contains f) dLI2 dAI2 mixed (by kernel_rfl) ?_
      | refine AW_region E0 ?_ | refine AW_ret ?_ | refine AW_exit ?_ | refine AW_skip ?_ | unfold retQ); try simp only [push_cast, seval, *])
    | (apply AW_cond; (case hc => (simp only [push_cast, seval]; rfl)); all_goals (intro hc; first | (exfalso; simp only [push_cast, seval, *] at hc; done) | (exact absurd hc (by decide)) | ((try first | rw [Bool.not_true] at hc | rw [Bool.not_false] at hc); first | (with_reducible replace hc := tTT hc); clear hc | (with_reducible replace hc := tFF hc); clear hc | (have hp := hc; try simp only [decide_eq_true_eq, decide_eq_false_iff_not, bA, bB, bC, bD, bE, bF, bG, bH] at hp))))
    | (refine Kn.go hK ?_; clear hK K)
    | refine Kn.go (by assumption) ?_
    | (intro n hn; (try simp only [upd_none2, join_none_iff, ite_none, ne_eq] at hn); (try simp only [push_cast, seval, *]))
    | (intro hc)
    | fail)
    exact ⟨_, _, Weak.refl _ _, rfl, unhid hbad (by decide) _⟩
  rw [if_neg (by decide)] at hE
  have hw1 : IntKind.i64.wrap ((S : Int) + more.length) = ((S + more.length : Nat) : Int) := by rw [wrap_i64 (by omega) (by omega)]; omega
  obtain ⟨T, hT⟩ : ∃ T, T = S + more.length := ⟨_, rfl⟩
  rw [← hT] at hw1 hE
  replace hT := Lib.hid hT
  by_cases h6 : 400 < T
  · rw [if_pos h6] at hE
    subst hE
    have h6I : (400 : Int) < T := by omega
    replace h6 := Lib.hid h6
    refine ACall_of' Try.func96 rfl (Ent_of Try.func96 (by kernel_rfl) rfl) (by simp [Try.ntmps96]) ?_; simp only [Try.ntmps96, Try.results96]
    repeat' (first
    | refine AW_seq_kn fun K hK => ?_
    | refine AW_block ?_
    | (refine does_call rfl rfl ?_; simp only [push_cast, seval, *]; refine ACall.mono hat ?_; (rintro _ _ ⟨rfl, e2⟩; have e3 := e2.symm; clear e2; subst e3); (try simp only [push_cast, seval, *]))
    | (refine does_call rfl rfl ?_; simp only [push_cast, seval, *]; refine ACall.monoP (hwr _) ?_; (try simp only [push_cast, seval, *]))
    | (refine does_call rfl rfl ?_; simp only [push_cast, seval, *]; refine ACall.mono hsz ?_; (rintro _ _ ⟨rfl, e2⟩; have e3 := e2.symm; clear e2; subst e3); (try simp only [push_cast, seval, *]))
    | ((first
      | refine AW_region_draw (id := 1) E0 (fun f => [].contains f) dLI0 dAI0 mixed (by kernel_rfl) ?_
      | refine AW_region_draw (id := 8) E0 (fun f => [].contains f) dLI1 dAI1 mixed (by kernel_rfl) ?_
      | refine AW_region_draw (id := 10) E0 (fun f => [].contains f) dLI2 dAI2 mixed (by kernel_rfl) ?_
      | refine AW_region E0 ?_ | refine AW_ret ?_ | refine AW_exit ?_ | refine AW_skip ?_ | unfold retQ); try simp only [push_cast, seval, *])
    | (apply AW_cond; (case hc => (simp only [push_cast, seval]; rfl)); all_goals (intro hc; first | (exfalso; simp only [push_cast, seval, *] at hc; done) | (exact absurd hc (by decide)) | ((try first | rw [Bool.not_true] at hc | rw [Bool.not_false] at hc); first | (with_reducible replace hc := tTT hc); clear hc | (with_reducible replace hc := tFF hc); clear hc | (have hp := hc; try simp only [decide_eq_true_eq, decide_eq_false_iff_not, bA, bB, bC, bD, bE, bF, bG, bH] at hp))))
    | (refine Kn.go hK ?_; clear hK K)
    | refine Kn.go (by assumption) ?_
    | (intro n hn; (try simp only [upd_none2, join_none_iff, ite_none, ne_eq] at hn); (try simp only [push_cast, seval, *]))
    | (intro hc)
    | fail)
    exact ⟨_, _, Weak.refl _ _, rfl, unhid hbad (by decide) _⟩
  rw [if_neg h6] at hE
  subst hE
  have h6I : ¬ (400 : Int) < T := by omega
  replace h6 := Lib.hid h6
  clear hbad
  -- the row that grows, on top
  obtain ⟨B0, p1, p2⟩ := Chain.pick RX_loc (unhid hch) (unhid hLi)
  obtain ⟨B1, p3, p4⟩ := (Loc.own _ _ _ _).swap (RX_loc y _) (OwnL.at (ty := 86) (sz := 5) (cap := cap) (rows := R) hRl.symm hnp) p1
  simp only [RX] at p3
  have hE45 := tE45
  have hS36 := tS36
  have hB36 := tB36
  have hZ36 := tZ36
  rcases p4.split with ⟨ad, hx, -, -⟩ | ⟨np', cap', hx, rfl, hnp0⟩
  · cases hx
  simp only [AV.s.injEq, true_and] at hx
  obtain ⟨rfl, -, rfl⟩ := hx
  have s2 := (Loc.chain RX_loc _).get p2 (unhid q1)
  have hN' := Lib.hid hnp0
  have hnp' := Lib.hid hnp
  clear hnp hnp0 p1 p4
  replace p2 := Lib.hid p2
  replace p3 := Lib.hid p3
  replace s2 := Lib.hid s2
  refine ACall_of' Try.func96 rfl (Ent_of Try.func96 (by kernel_rfl) rfl) (by simp [Try.ntmps96]) ?_; simp only [Try.ntmps96, Try.results96]
  repeat' (first
    | refine AW_seq_kn fun K hK => ?_
    | refine AW_block ?_
    | (refine does_call rfl rfl ?_; simp only [push_cast, seval, *]; refine ACall.mono hat ?_; (rintro _ _ ⟨rfl, e2⟩; have e3 := e2.symm; clear e2; subst e3); (try simp only [push_cast, seval, *]))
    | (refine does_call rfl rfl ?_; simp only [push_cast, seval, *]; refine ACall.monoP (hwr _) ?_; (try simp only [push_cast, seval, *]))
    | (refine does_call rfl rfl ?_; simp only [push_cast, seval, *]; refine ACall.mono hsz ?_; (rintro _ _ ⟨rfl, e2⟩; have e3 := e2.symm; clear e2; subst e3); (try simp only [push_cast, seval, *]))
    | (refine does_appL rfl rfl rfl (unhid p3) hE45 hS36 hB36 hZ36 rfl (by decide) (by simp only [List.length_map, maxLen]; omega) (by simp only [List.length_map]; omega) ?_; intro z H' hz; have hzcs := hz.cs; have hzone := hz.one; have z1 := hz.get (upd_same _ _ _); have z2 := hz.get (m := nb) (by rw [upd_ne m1]; exact unhid s2); (try simp only [push_cast, seval, *]))
    | ((first
      | refine AW_region_draw (id := 1) E0 (fun f => [].contains f) dLI0 dAI0 mixed (by kernel_rfl) ?_
      | refine AW_region_draw (id := 8) E0 (fun f => [].contains f) dLI1 dAI1 mixed (by kernel_rfl) ?_
      | refine AW_region_draw (id := 10) E0 (fun f => [].contains f) dLI2 dAI2 mixed (by kernel_rfl) ?_
      | refine AW_region E0 ?_ | refine AW_ret ?_ | refine AW_exit ?_ | refine AW_skip ?_ | unfold retQ); try simp only [push_cast, seval, *])
    | (apply AW_cond; (case hc => (simp only [push_cast, seval]; rfl)); all_goals (intro hc; first | (exfalso; simp only [push_cast, seval, *] at hc; done) | (exact absurd hc (by decide)) | ((try first | rw [Bool.not_true] at hc | rw [Bool.not_false] at hc); first | (with_reducible replace hc := tTT hc); clear hc | (with_reducible replace hc := tFF hc); clear hc | (have hp := hc; try simp only [decide_eq_true_eq, decide_eq_false_iff_not, bA, bB, bC, bD, bE, bF, bG, bH] at hp))))
    | (refine Kn.go hK ?_; clear hK K)
    | refine Kn.go (by assumption) ?_
    | (intro n hn; (try simp only [upd_none2, join_none_iff, ite_none, ne_eq] at hn); (try simp only [push_cast, seval, *]))
    | (intro hc)
    | fail)
  rw [← List.map_append] at hz
  have t5 := hz.turn (upd_same _ _ _) (.r 86 5 cap (R.set i [.c (.int .i64 ts), .c (.int .i64 ta), .c (.int .i64 tn), .c (.int .i64 tst), z]))
  rw [upd_upd] at t5
  have hR2 : R.set i [.c (.int .i64 ts), .c (.int .i64 ta), .c (.int .i64 tn), .c (.int .i64 tst), z] = (L.set i (z, (⟨⟨ts, ta, tn⟩, tst, trs ++ more⟩ : Tx))).map encX := by
    rw [unhid hR]; exact set_enc rfl
  have hl2 : a.length = ((L.set i (z, (⟨⟨ts, ta, tn⟩, tst, trs ++ more⟩ : Tx))).map encX).length := by rw [← unhid hLl]; simp
  rw [hR2] at t5 ⊢
  obtain ⟨B2, r1, r2⟩ := (Loc.own z 36 3 ((trs ++ more).map Rec.av)).swap (Loc.own _ _ _ _) t5 (OwnL.at (ty := 86) (sz := 5) (cap := cap) hl2 (unhid hN'))
  have r3 := Chain.put RX_loc (L := L) (k := i) (a := (⟨⟨ts, ta, tn⟩, tst, trs ++ more⟩ : Tx)) r2 (unhid p2) (List.getElem?_eq_some_iff.1 (unhid hLi)).1
  refine ⟨_, _, Weak.refl _ _, rfl, .inl ⟨rfl, .s np 5 0 a.length cap, x2, x3, G, rfl, hnb, ?_⟩⟩
  rw [unhid hN]
  exact ⟨A1, ⟨L.set i (z, ⟨⟨ts, ta, tn⟩, tst, trs ++ more⟩), set_snd (unhid hLl), B2, r1, r3⟩, A2, unhid o3, unhid o4⟩
end Go.Proofs.Ytdeckjoeggmagaa
