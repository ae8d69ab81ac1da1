/- Walks of the document: Ready, Open. -/
import Derived.Test.YtdeckjoeggmagaaDG
namespace Go.Proofs.Ytdeckjoeggmagaa
open Go.RowKit
open Nat renaming reduceEqDiff → nA, reduceLT → nB, reduceLeDiff → nC, reduceAdd → nD, reduceMul → nE, reduceSub → nF, reduceBEq → nG
open Int renaming reduceToNat → iA, reduceLT → iB, reduceLE → iC, reduceEq → iD
open Bool renaming and_eq_true → bA, or_eq_true → bB, or_eq_false_iff → bC, and_eq_false_iff → bD, not_eq_true' → bE, not_eq_false' → bF, not_true → bG, not_false → bH
set_option linter.all false
set_option maxHeartbeats 4000000
attribute [local irreducible] AW Does ACall tE tS tB tZ
set_option maxRecDepth 5000

theorem refReady_p (l : Lg) (hok : lgOk l = true) (v : Nm) : Pure Try.prog 68 [.g (Lg.av l), .g (Nm.av v)] (.t [.g (if readyE l v = 0 then readyL l v else zeroL).av, .c (.int .i64 (readyE l v))]) := by
  intro H
  have hf := fits_of hok
  have hr := ((lgOk_iff l).1 hok).rise
  have hcp := fun M => Copy_f l hf M
  have hfd := find_p l (by have := hf.1.1; unfold maxLen; omega) v
  rw [fd_at hr v] at hfd
  have htr := fun h => at_true (l := l.txs) (v := v) h
  have hE : readyE l v = if atB l.txs v = false then 4 else 0 := rfl
  obtain ⟨N, hN⟩ : ∃ N, N = readyL l v := ⟨_, rfl⟩
  rw [← hN]
  unfold readyL txAt at hN
  generalize readyE l v = E at *
  generalize atI l.txs v = i at *
  generalize atB l.txs v = B at *
  have hl24 := ((lgOk_iff l).1 hok).t24
  obtain ⟨a, b, c⟩ := l
  simp only at hN htr hl24
  obtain ⟨vs, va, vn⟩ := v
  have hnv : Nm.av ⟨vs, va, vn⟩ = [.c (.int .i64 vs), .c (.int .i64 va), .c (.int .i64 vn)] := rfl
  simp only [hnv, Lg.av] at hfd hcp ⊢
  clear hf hr hok
  cases B
  · rw [if_pos rfl] at hE
    subst hE
    rw [if_neg (by decide)]
    simp only [Bool.false_eq_true, if_false] at hfd
    have hz : zeroL.av = [.l 5 [], .l 3 [], .l 3 []] := rfl
    simp only [Lg.av] at hz
    clear htr hN hcp
    refine ACall_of' Try.func68 rfl (Ent_of Try.func68 (by kernel_rfl) rfl) (by simp [Try.ntmps68]) ?_; simp only [Try.ntmps68, Try.results68]
    repeat' (first
    | refine AW_seq_kn fun K hK => ?_
    | refine AW_block ?_
    | (refine does_call rfl rfl ?_; simp only [push_cast, seval, *]; refine ACall.monoP (hfd _) ?_; (try simp only [push_cast, seval, *]))
    | ((first
      | refine AW_region E0 ?_ | refine AW_ret ?_ | refine AW_exit ?_ | refine AW_skip ?_ | unfold retQ); try simp only [push_cast, seval, *])
    | (apply AW_cond; (case hc => (simp only [push_cast, seval]; rfl)); all_goals (intro hc; first | (exfalso; simp only [push_cast, seval, *] at hc; done) | (exact absurd hc (by decide)) | ((try first | rw [Bool.not_true] at hc | rw [Bool.not_false] at hc); first | (with_reducible replace hc := tTT hc); clear hc | (with_reducible replace hc := tFF hc); clear hc | (have hp := hc; try simp only [decide_eq_true_eq, decide_eq_false_iff_not, bA, bB, bC, bD, bE, bF, bG, bH] at hp))))
    | (refine Kn.go hK ?_; clear hK K)
    | refine Kn.go (by assumption) ?_
    | (intro n hn; (try simp only [upd_none2, join_none_iff, ite_none, ne_eq] at hn); (try simp only [push_cast, seval, *]))
    | (intro hc)
    | fail)
    exact ⟨_, H, Weak.trans (Weak.less (by (repeat' (first | exact Heap.le_refl _ | refine hle_upd2 ?_ _ _ | (refine Heap.le_new ?_ ?_; rotate_left 1; focus (first | assumption | (simp only [upd_none2, upd_get, ne_eq, push_cast, seval, *]; done) | (simp [upd_get, *]; done))))))) (zero_weak H 4), rfl, rfl⟩
  rw [if_neg (by decide)] at hE
  subst hE
  rw [if_pos rfl]
  simp only [if_true] at hfd
  obtain ⟨t, ht, htn⟩ := htr rfl
  rw [ht] at hN
  simp only [Option.getD_some] at hN
  have hiI : ¬ (i : Int) < 0 := by omega
  have hil : (i : Int) < a.length := by have := (List.getElem?_eq_some_iff.1 ht).1; omega
  have hrow : (a.map Tx.av)[i]? = some (Tx.av t) := by rw [List.getElem?_map, ht]; rfl
  have hset : (a.map Tx.av).set i (Tx.av { t with st := 2 }) = N.txs.map Tx.av := by rw [hN]; simp only [List.map_set]
  have hN2 : N.done = b ∧ N.log = c := by rw [hN]; exact ⟨rfl, rfl⟩
  have hNl : N.txs.length = a.length := by rw [hN]; simp
  obtain ⟨⟨ts, ta, tn⟩, tst, trs⟩ := t
  have htv : ∀ s, Tx.av ⟨⟨ts, ta, tn⟩, s, trs⟩ = [.c (.int .i64 ts), .c (.int .i64 ta), .c (.int .i64 tn), .c (.int .i64 s), .l 3 (trs.map Rec.av)] := fun _ => rfl
  simp only [htv] at hrow hset
  obtain ⟨Na, Nb, Nc⟩ := N
  simp only at hN2 hset hNl
  obtain ⟨rfl, rfl⟩ := hN2
  clear htr htn ht hN htv
  obtain ⟨R, hR⟩ : ∃ R, R = a.map Tx.av := ⟨_, rfl⟩
  have hRl : R.length = a.length := by rw [hR]; simp
  replace hcp := Lib.hid hcp
  refine ACall_of' Try.func68 rfl (Ent_of Try.func68 (by kernel_rfl) rfl) (by simp [Try.ntmps68]) ?_; simp only [Try.ntmps68, Try.results68]
  repeat' (first
    | refine AW_seq_kn fun K hK => ?_
    | refine AW_block ?_
    | (refine does_call rfl rfl ?_; simp only [push_cast, seval, *]; refine ACall.monoP (hfd _) ?_; (try simp only [push_cast, seval, *]))
    | ((first
      | refine AW_region E0 ?_ | refine AW_ret ?_ | refine AW_exit ?_ | refine AW_skip ?_ | unfold retQ); try simp only [push_cast, seval, *])
    | (apply AW_cond; (case hc => (simp only [push_cast, seval]; rfl)); all_goals (intro hc; first | (exfalso; simp only [push_cast, seval, *] at hc; done) | (exact absurd hc (by decide)) | ((try first | rw [Bool.not_true] at hc | rw [Bool.not_false] at hc); first | (with_reducible replace hc := tTT hc); clear hc | (with_reducible replace hc := tFF hc); clear hc | (have hp := hc; try simp only [decide_eq_true_eq, decide_eq_false_iff_not, bA, bB, bC, bD, bE, bF, bG, bH] at hp))))
    | (refine Kn.go hK ?_; clear hK K)
    | refine Kn.go (by assumption) ?_
    | (intro n hn; (try simp only [upd_none2, join_none_iff, ite_none, ne_eq] at hn); (try simp only [push_cast, seval, *]))
    | (intro hc)
    | fail)
  rename_i n2 h2 n3 h3
  generalize n = n4 at *
  have e2 : H n2 = none := h2
  have e3 : H n3 = none := h3.2
  have e4 : H n4 = none := hn.2.2
  obtain ⟨G, hG⟩ : ∃ G : Heap, G = upd (upd (upd H n2 (.r 47 3 1 [[.l 5 (a.map Tx.av), .l 3 (Nb.map Nm.av), .l 3 (Nc.map Rec.av)]])) n3 (.r 26 3 1 [[.c (.int .i64 vs), .c (.int .i64 va), .c (.int .i64 vn)]])) n4 (.r 47 3 1 [zL]) := ⟨_, rfl⟩
  have n24 : ¬ n2 = n4 := hn.2.1.2
  have n23 : ¬ n2 = n3 := h3.1.2
  have n34 : ¬ n3 = n4 := hn.1.2
  have n42 : ¬ n4 = n2 := hn.2.1.1
  have g2 : G n2 = some (.r 47 3 1 [[.l 5 (a.map Tx.av), .l 3 (Nb.map Nm.av), .l 3 (Nc.map Rec.av)]]) := by rw [hG, upd_ne n24, upd_ne n23, upd_same]
  have g3 : G n3 = some (.r 26 3 1 [[.c (.int .i64 vs), .c (.int .i64 va), .c (.int .i64 vn)]]) := by rw [hG, upd_ne n34, upd_same]
  have g4 : G n4 = some (.r 47 3 1 [zL]) := by rw [hG, upd_same]
  have hle : Heap.le H G := by rw [hG]; (repeat' (first | exact Heap.le_refl _ | refine hle_upd2 ?_ _ _ | (refine Heap.le_new ?_ ?_; rotate_left 1; focus (first | assumption | (simp only [upd_none2, upd_get, ne_eq, push_cast, seval, *]; done) | (simp [upd_get, *]; done)))))
  rw [show upd (upd (upd H n2 (.r 47 3 1 [[.l 5 (a.map Tx.av), .l 3 (Nb.map Nm.av), .l 3 (Nc.map Rec.av)]])) n3 (.r 26 3 1 [[.c (.int .i64 vs), .c (.int .i64 va), .c (.int .i64 vn)]])) n4 (.r 47 3 1 [zL]) = G from hG.symm]
  clear hG h2 h3 hn hfd
  refine does_call rfl rfl ?_
  simp only [push_cast, seval, *]
  refine ACall.mono (unhid hcp G) ?_
  rintro _ A ⟨y1, y2, y3, rfl, ho⟩
  obtain ⟨⟨c1, c2, c3⟩, w1, w2, w3⟩ := OwnF_cs ho
  obtain ⟨A1, o1, o23⟩ := ho
  have hq1 : Heap.le G A1 := ((Loc.own _ _ _ _).comp (Loc.own _ _ _ _)).le o23
  simp only at o1
  rcases o1.split with ⟨ad, -, e, -⟩ | ⟨np, cap, rfl, rfl, hnp⟩
  · rw [e] at hrow; simp at hrow
  have a2 := hq1 _ _ g2
  have a4 := hq1 _ _ g4
  have m2 : ¬ n2 = np := by rintro rfl; rw [hnp] at a2; cases a2
  have m4 : ¬ n4 = np := by rintro rfl; rw [hnp] at a4; cases a4
  have m2' : ¬ np = n2 := fun h => m2 h.symm
  have m4' : ¬ np = n4 := fun h => m4 h.symm
  have hfin : OwnF (.s np 5 0 (a.map Tx.av).length cap) y2 y3 ⟨Na, Nb, Nc⟩ (upd A1 np (.r 86 5 cap (Na.map Tx.av))) G := ⟨A1, OwnL.at (by simp [hNl]) hnp, o23⟩
  obtain ⟨S2, v1, v2, v3⟩ := (OwnF_loc _ _ _ _).cutx hfin hle
  have v4 := v3 n2 (by rw [g2]; simp) e2
  have v5 := v3 n4 (by rw [g4]; simp) e4
  rw [← hR] at hrow hset v2 c1 ⊢
  rw [hRl] at v2 c1 ⊢
  replace v1 := Lib.hid v1
  replace v2 := Lib.hid v2
  replace v4 := Lib.hid v4
  replace v5 := Lib.hid v5
  clear v3 hfin o1 o23 hq1 hcp hR
  (try simp only [push_cast, seval, *])
  repeat' (first
    | refine AW_seq_kn fun K hK => ?_
    | refine AW_block ?_
    | ((first
      | refine AW_region E0 ?_ | refine AW_ret ?_ | refine AW_exit ?_ | refine AW_skip ?_ | unfold retQ); try simp only [push_cast, seval, *])
    | (apply AW_cond; (case hc => (simp only [push_cast, seval]; rfl)); all_goals (intro hc; first | (exfalso; simp only [push_cast, seval, *] at hc; done) | (exact absurd hc (by decide)) | ((try first | rw [Bool.not_true] at hc | rw [Bool.not_false] at hc); first | (with_reducible replace hc := tTT hc); clear hc | (with_reducible replace hc := tFF hc); clear hc | (have hp := hc; try simp only [decide_eq_true_eq, decide_eq_false_iff_not, bA, bB, bC, bD, bE, bF, bG, bH] at hp))))
    | (refine Kn.go hK ?_; clear hK K)
    | refine Kn.go (by assumption) ?_
    | (intro n hn; (try simp only [upd_none2, join_none_iff, ite_none, ne_eq] at hn); (try simp only [push_cast, seval, *]))
    | (intro hc)
    | fail)
  refine ⟨_, H, Weak.trans (Weak.less (H' := S2) ?_) ((OwnF_wp (unhid v2)).weak fun F F' hF hi => Imp.t (Imps.cons hi (fun h => by cases h) (Imps.refl hF _))), rfl, rfl⟩
  refine le_skip ?_ (unhid v5)
  rw [upd_comm m2, upd_upd]
  exact le_skip (unhid v1) (unhid v4)
theorem Imp_row {sz : Nat} {A B : List (List AV)} {r r' : List AV} (hA : ∀ e, e ∈ A ∨ e ∈ B → e.length = sz ∧ ∀ y ∈ e, y.one = true) (hr : r'.length = sz) (h : ∀ (j : Nat) (y : AV), r'[j]? = some y → y.one = true ∧ ∃ x, r[j]? = some x ∧ ∀ F : Mem, Imp F F x y) (F : Mem) : Imp F F (.l sz (A ++ [r] ++ B)) (.l sz (A ++ [r'] ++ B)) := by
  refine Imp.l (Mem.le.refl F) (by simp) (fun e he => ?_) (fun i j y hy => ?_)
  · rcases List.mem_append.1 he with he | he
    · rcases List.mem_append.1 he with he | he
      · exact (hA e (.inl he)).1
      · simp only [List.mem_singleton] at he; subst he; exact hr
    · exact (hA e (.inr he)).1
  · obtain ⟨e, he, hj⟩ := at2_some.1 hy
    rcases Nat.lt_trichotomy i A.length with c | c | c
    · rw [List.append_assoc, List.getElem?_append_left c] at he
      refine ⟨(hA e (.inl (List.mem_of_getElem? he))).2 y (List.mem_of_getElem? hj), y, at2_some.2 ⟨e, ?_, hj⟩, Imp.refl (Mem.le.refl F) _⟩
      rw [List.append_assoc, List.getElem?_append_left c]; exact he
    · have e1 : e = r' := by
        rw [List.append_assoc, List.getElem?_append_right (by omega), c, Nat.sub_self] at he
        simpa using he.symm
      subst e1
      obtain ⟨h1, x, h2, h3⟩ := h j y hj
      refine ⟨h1, x, at2_some.2 ⟨r, ?_, h2⟩, h3 F⟩
      rw [List.append_assoc, List.getElem?_append_right (by omega), c, Nat.sub_self]; rfl
    · have h2 : ∀ q : List AV, (A ++ [q] ++ B)[i]? = B[i - A.length - 1]? := fun q => by
        rw [List.getElem?_append_right (by simp; omega)]
        congr 1; simp; omega
      rw [h2] at he
      exact ⟨(hA e (.inr (List.mem_of_getElem? he))).2 y (List.mem_of_getElem? hj), y, at2_some.2 ⟨e, by rw [h2]; exact he, hj⟩, Imp.refl (Mem.le.refl F) _⟩
theorem tx_row (t : Tx) : (Tx.av t).length = 5 ∧ ∀ y ∈ Tx.av t, y.one = true := by
  refine ⟨rfl, fun y hy => ?_⟩
  simp only [Tx.av, List.mem_cons, List.not_mem_nil, or_false] at hy
  rcases hy with rfl | rfl | rfl | rfl | rfl <;> rfl
theorem refOpen_p (l : Lg) (hok : lgOk l = true) (v : Nm) : Pure Try.prog 66 [.g (Lg.av l), .g (Nm.av v)] (.t [.g (if openE l v = 0 then openL l v else zeroL).av, .c (.int .i64 (openE l v))]) := by
  intro H
  have hf := fits_of hok
  have hr := ((lgOk_iff l).1 hok).rise
  have hcp := Copy_p l hf
  have hfd := find_p l (by have := hf.1.1; unfold maxLen; omega) v
  rw [fd_at hr v] at hfd
  have hhs := rhas_p l.done (by have := hf.1.2.1; unfold maxLen; omega) v
  have hE : openE l v = if atB l.txs v = true then 5 else if v ∈ l.done then 5 else if l.txs.length = 24 then 6 else 0 := rfl
  have hl24 := ((lgOk_iff l).1 hok).t24
  have hbef := fun j x hj (hx : l.txs[j]? = some x) => at_before (v := v) (i := j) hj hx
  have hbeh := fun j x hj (hx : l.txs[j]? = some x) => at_behind hr (v := v) (i := j) hj hx
  have hnot := fun h => (atB_not hr (v := v)).1 h
  have hil : atI l.txs v ≤ l.txs.length := lbd_le _ _
  obtain ⟨N, hN⟩ : ∃ N, N = openL l v := ⟨_, rfl⟩
  rw [← hN]
  unfold openL at hN
  generalize openE l v = E at *
  generalize atI l.txs v = i at *
  generalize atB l.txs v = B at *
  obtain ⟨a, b, c⟩ := l
  simp only at hN hl24 hE hhs hbef hbeh hnot hil
  have hls := fun x : Nm => Less_p v x
  have hav : Lg.av ⟨a, b, c⟩ = [.l 5 (a.map Tx.av), .l 3 (b.map Nm.av), .l 3 (c.map Rec.av)] := rfl
  rw [hav] at hfd hcp ⊢
  have hz : zeroL.av = [.l 5 [], .l 3 [], .l 3 []] := rfl
  have hneg : ¬ (i : Int) < 0 := by omega
  have hpos : (0 : Int) ≤ i := by omega
  clear hf hr hok hav
  cases B
  rotate_left
  · rw [if_pos rfl] at hE
    subst hE
    rw [if_neg (by decide)]
    simp only [if_true] at hfd
    obtain ⟨vs, va, vn⟩ := v
    have hnv : Nm.av ⟨vs, va, vn⟩ = [.c (.int .i64 vs), .c (.int .i64 va), .c (.int .i64 vn)] := rfl
    simp only [hnv] at hfd ⊢
    clear hN hcp hhs hbef hbeh hnot hls
    refine ACall_of' Try.func66 rfl (Ent_of Try.func66 (by kernel_rfl) rfl) (by simp [Try.ntmps66]) ?_; simp only [Try.ntmps66, Try.results66]
    repeat' (first
    | refine AW_seq_kn fun K hK => ?_
    | refine AW_block ?_
    | (refine does_call rfl rfl ?_; simp only [push_cast, seval, *]; refine ACall.monoP (hfd _) ?_; (try simp only [push_cast, seval, *]))
    | ((first
      | refine AW_region E0 ?_ | refine AW_ret ?_ | refine AW_exit ?_ | refine AW_skip ?_ | unfold retQ); try simp only [push_cast, seval, *])
    | ((first | (apply AW_cond; (case hc => (simp only [push_cast, seval]; rfl))) | (apply ER_guard; (case hb => (simp only [push_cast, seval]; rfl)))); all_goals ((intro hc; first | (exfalso; simp only [push_cast, seval, *] at hc; done) | (exact absurd hc (by decide)) | ((try first | rw [Bool.not_true] at hc | rw [Bool.not_false] at hc); first | (with_reducible replace hc := tTT hc); clear hc | (with_reducible replace hc := tFF hc); clear hc | (have hp := hc; try simp only [decide_eq_true_eq, decide_eq_false_iff_not, bA, bB, bC, bD, bE, bF, bG, bH] at hp))) <;> try simp only [push_cast, seval, *]))
    | (refine Kn.go hK ?_; clear hK K)
    | refine Kn.go (by assumption) ?_
    | (intro n hn; (try simp only [upd_none2, join_none_iff, ite_none, ne_eq] at hn); (try simp only [push_cast, seval, *]))
    | (intro hc)
    | (apply ER_blk; (case hp => rfl); (case hb => (simp only [push_cast, seval]; rfl)); (case hd => (simp only [push_cast, seval]; done)); (case h => (intro hc; simp only [push_cast, seval, *]; rfl)); simp only [push_cast, seval, *])
    | fail)
    exact ⟨_, H, Weak.trans (Weak.less (by (repeat' (first | exact Heap.le_refl _ | refine hle_upd2 ?_ _ _ | (refine Heap.le_new ?_ ?_; rotate_left 1; focus (first | assumption | (simp only [upd_none2, upd_get, ne_eq, push_cast, seval, *]; done) | (simp [upd_get, *]; done))))))) (zero_weak H 5), rfl, rfl⟩
  rw [if_neg (by decide)] at hE
  simp only [Bool.false_eq_true, if_false] at hfd
  by_cases hd : v ∈ b
  · rw [if_pos hd] at hE
    rw [decide_eq_true hd] at hhs
    subst hE
    rw [if_neg (by decide)]
    obtain ⟨vs, va, vn⟩ := v
    have hnv : Nm.av ⟨vs, va, vn⟩ = [.c (.int .i64 vs), .c (.int .i64 va), .c (.int .i64 vn)] := rfl
    simp only [hnv] at hfd hhs ⊢
    clear hN hcp hbef hbeh hnot hls hd
    refine ACall_of' Try.func66 rfl (Ent_of Try.func66 (by kernel_rfl) rfl) (by simp [Try.ntmps66]) ?_; simp only [Try.ntmps66, Try.results66]
    repeat' (first
    | refine AW_seq_kn fun K hK => ?_
    | refine AW_block ?_
    | (refine does_call rfl rfl ?_; simp only [push_cast, seval, *]; refine ACall.monoP (hfd _) ?_; (try simp only [push_cast, seval, *]))
    | (refine does_call rfl rfl ?_; simp only [push_cast, seval, *]; refine ACall.monoP (hhs _) ?_; (try simp only [push_cast, seval, *]))
    | ((first
      | refine AW_region E0 ?_ | refine AW_ret ?_ | refine AW_exit ?_ | refine AW_skip ?_ | unfold retQ); try simp only [push_cast, seval, *])
    | ((first | (apply AW_cond; (case hc => (simp only [push_cast, seval]; rfl))) | (apply ER_guard; (case hb => (simp only [push_cast, seval]; rfl)))); all_goals ((intro hc; first | (exfalso; simp only [push_cast, seval, *] at hc; done) | (exact absurd hc (by decide)) | ((try first | rw [Bool.not_true] at hc | rw [Bool.not_false] at hc); first | (with_reducible replace hc := tTT hc); clear hc | (with_reducible replace hc := tFF hc); clear hc | (have hp := hc; try simp only [decide_eq_true_eq, decide_eq_false_iff_not, bA, bB, bC, bD, bE, bF, bG, bH] at hp))) <;> try simp only [push_cast, seval, *]))
    | (refine Kn.go hK ?_; clear hK K)
    | refine Kn.go (by assumption) ?_
    | (intro n hn; (try simp only [upd_none2, join_none_iff, ite_none, ne_eq] at hn); (try simp only [push_cast, seval, *]))
    | (intro hc)
    | (apply ER_blk; (case hp => rfl); (case hb => (simp only [push_cast, seval]; rfl)); (case hd => (simp only [push_cast, seval]; done)); (case h => (intro hc; simp only [push_cast, seval, *]; rfl)); simp only [push_cast, seval, *])
    | fail)
    exact ⟨_, H, Weak.trans (Weak.less (by (repeat' (first | exact Heap.le_refl _ | refine hle_upd2 ?_ _ _ | (refine Heap.le_new ?_ ?_; rotate_left 1; focus (first | assumption | (simp only [upd_none2, upd_get, ne_eq, push_cast, seval, *]; done) | (simp [upd_get, *]; done))))))) (zero_weak H 5), rfl, rfl⟩
  rw [if_neg hd] at hE
  rw [decide_eq_false hd] at hhs
  clear hd
  by_cases h24 : a.length = 24
  · rw [if_pos h24] at hE
    subst hE
    rw [if_neg (by decide)]
    have h24I : (24 : Int) ≤ a.length := by omega
    obtain ⟨vs, va, vn⟩ := v
    have hnv : Nm.av ⟨vs, va, vn⟩ = [.c (.int .i64 vs), .c (.int .i64 va), .c (.int .i64 vn)] := rfl
    simp only [hnv] at hfd hhs ⊢
    clear hN hcp hbef hbeh hnot hls h24
    refine ACall_of' Try.func66 rfl (Ent_of Try.func66 (by kernel_rfl) rfl) (by simp [Try.ntmps66]) ?_; simp only [Try.ntmps66, Try.results66]
    repeat' (first
    | refine AW_seq_kn fun K hK => ?_
    | refine AW_block ?_
    | (refine does_call rfl rfl ?_; simp only [push_cast, seval, *]; refine ACall.monoP (hfd _) ?_; (try simp only [push_cast, seval, *]))
    | (refine does_call rfl rfl ?_; simp only [push_cast, seval, *]; refine ACall.monoP (hhs _) ?_; (try simp only [push_cast, seval, *]))
    | ((first
      | refine AW_region E0 ?_ | refine AW_ret ?_ | refine AW_exit ?_ | refine AW_skip ?_ | unfold retQ); try simp only [push_cast, seval, *])
    | ((first | (apply AW_cond; (case hc => (simp only [push_cast, seval]; rfl))) | (apply ER_guard; (case hb => (simp only [push_cast, seval]; rfl)))); all_goals ((intro hc; first | (exfalso; simp only [push_cast, seval, *] at hc; done) | (exact absurd hc (by decide)) | ((try first | rw [Bool.not_true] at hc | rw [Bool.not_false] at hc); first | (with_reducible replace hc := tTT hc); clear hc | (with_reducible replace hc := tFF hc); clear hc | (have hp := hc; try simp only [decide_eq_true_eq, decide_eq_false_iff_not, bA, bB, bC, bD, bE, bF, bG, bH] at hp))) <;> try simp only [push_cast, seval, *]))
    | (refine Kn.go hK ?_; clear hK K)
    | refine Kn.go (by assumption) ?_
    | (intro n hn; (try simp only [upd_none2, join_none_iff, ite_none, ne_eq] at hn); (try simp only [push_cast, seval, *]))
    | (intro hc)
    | (apply ER_blk; (case hp => rfl); (case hb => (simp only [push_cast, seval]; rfl)); (case hd => (simp only [push_cast, seval]; done)); (case h => (intro hc; simp only [push_cast, seval, *]; rfl)); simp only [push_cast, seval, *])
    | fail)
    exact ⟨_, H, Weak.trans (Weak.less (by (repeat' (first | exact Heap.le_refl _ | refine hle_upd2 ?_ _ _ | (refine Heap.le_new ?_ ?_; rotate_left 1; focus (first | assumption | (simp only [upd_none2, upd_get, ne_eq, push_cast, seval, *]; done) | (simp [upd_get, *]; done))))))) (zero_weak H 6), rfl, rfl⟩
  rw [if_neg h24] at hE
  subst hE
  rw [if_pos rfl]
  have h24I : ¬ (24 : Int) ≤ a.length := by omega
  -- the row as it grows
  obtain ⟨vs, va, vn⟩ := v
  have hnv : Nm.av ⟨vs, va, vn⟩ = [.c (.int .i64 vs), .c (.int .i64 va), .c (.int .i64 vn)] := rfl
  obtain ⟨nr, hnr⟩ : ∃ nr : List AV, nr = [.c (.int .i64 vs), .c (.int .i64 va), .c (.int .i64 vn), .c (.int .i64 1), .c (.slice none 0 0)] := ⟨_, rfl⟩
  obtain ⟨rw', hrw⟩ : ∃ f : Nat → List (List AV), f = fun k => if i < k then (a.take i).map Tx.av ++ [nr] ++ ((a.take k).drop i).map Tx.av else (a.take k).map Tx.av := ⟨_, rfl⟩
  have hr0 : rw' 0 = [] := by rw [hrw]; simp
  have hrl : ∀ k, (rw' k).length ≤ 26 := fun k => by
    rw [hrw]
    simp only
    split
    · simp only [List.length_append, List.length_map, List.length_take, List.length_drop, List.length_singleton]; omega
    · simp only [List.length_map, List.length_take]; omega
  have hr1 : ∀ k x, a[k]? = some x → k < i → rw' (k + 1) = rw' k ++ [Tx.av x] := fun k x hx hk => by
    rw [hrw]
    simp only
    rw [if_neg (by omega), if_neg (by omega), take_snoc_map _ hx]
  have hr2 : ∀ k x, a[k]? = some x → k = i → rw' (k + 1) = rw' k ++ [nr] ++ [Tx.av x] := fun k x hx hk => by
    subst hk
    rw [hrw]
    simp only
    rw [if_pos (by omega), if_neg (by omega), take_snoc hx, List.drop_append_of_le_length (by rw [List.length_take]; omega), List.drop_of_length_le (by rw [List.length_take]; omega)]
    rfl
  have hr3 : ∀ k x, a[k]? = some x → i < k → rw' (k + 1) = rw' k ++ [Tx.av x] := fun k x hx hk => by
    have hkl := (List.getElem?_eq_some_iff.1 hx).1
    rw [hrw]
    simp only
    rw [if_pos (by omega), if_pos hk, take_snoc hx, List.drop_append_of_le_length (by rw [List.length_take]; omega)]
    simp
  have hr4 : i < a.length → rw' a.length = (a.take i).map Tx.av ++ [nr] ++ (a.drop i).map Tx.av := fun h => by
    rw [hrw]; simp only; rw [if_pos h, List.take_length]
  have hr5 : i = a.length → rw' a.length ++ [nr] = (a.take i).map Tx.av ++ [nr] ++ (a.drop i).map Tx.av := fun h => by
    rw [hrw]; simp only; rw [if_neg (by omega), h, List.take_length, List.drop_length]; simp
  have hNa : N.txs = a.take i ++ [⟨⟨vs, va, vn⟩, 1, []⟩] ++ a.drop i ∧ N.done = b ∧ N.log = c := by rw [hN]; exact ⟨rfl, rfl, rfl⟩
  have hE44 := tE44
  have hS86 := tS86
  have hB86 := tB86
  have hZ86 := tZ86
  simp only [hnv] at hfd hhs hls ⊢
  clear hN hrw h24
  replace hbef := Lib.hid hbef
  replace hbeh := Lib.hid hbeh
  replace hnot := Lib.hid hnot
  replace hls := Lib.hid hls
  replace hr1 := Lib.hid hr1
  replace hr2 := Lib.hid hr2
  replace hr3 := Lib.hid hr3
  replace hr4 := Lib.hid hr4
  replace hr5 := Lib.hid hr5
  replace hrl := Lib.hid hrl
  replace hr0 := Lib.hid hr0
  replace hNa := Lib.hid hNa
  replace hnr := Lib.hid hnr
  refine ACall_of' Try.func66 rfl (Ent_of Try.func66 (by kernel_rfl) rfl) (by simp [Try.ntmps66]) ?_; simp only [Try.ntmps66, Try.results66]
  repeat' (first
    | refine AW_seq_kn fun K hK => ?_
    | refine AW_block ?_
    | (refine does_call rfl rfl ?_; simp only [push_cast, seval, *]; refine ACall.monoP (hfd _) ?_; (try simp only [push_cast, seval, *]))
    | (refine does_call rfl rfl ?_; simp only [push_cast, seval, *]; refine ACall.monoP (hhs _) ?_; (try simp only [push_cast, seval, *]))
    | (refine does_call rfl rfl ?_; simp only [push_cast, seval, *]; refine ACall.monoP (hcp _) ?_; (try simp only [push_cast, seval, *]))
    | ((first
      | refine AW_region E0 ?_ | refine AW_ret ?_ | refine AW_exit ?_ | refine AW_skip ?_ | unfold retQ); try simp only [push_cast, seval, *])
    | ((first | (apply AW_cond; (case hc => (simp only [push_cast, seval]; rfl))) | (apply ER_guard; (case hb => (simp only [push_cast, seval]; rfl)))); all_goals ((intro hc; first | (exfalso; simp only [push_cast, seval, *] at hc; done) | (exact absurd hc (by decide)) | ((try first | rw [Bool.not_true] at hc | rw [Bool.not_false] at hc); first | (with_reducible replace hc := tTT hc); clear hc | (with_reducible replace hc := tFF hc); clear hc | (have hp := hc; try simp only [decide_eq_true_eq, decide_eq_false_iff_not, bA, bB, bC, bD, bE, bF, bG, bH] at hp))) <;> try simp only [push_cast, seval, *]))
    | (refine Kn.go hK ?_; clear hK K)
    | refine Kn.go (by assumption) ?_
    | (intro n hn; (try simp only [upd_none2, join_none_iff, ite_none, ne_eq] at hn); (try simp only [push_cast, seval, *]))
    | (intro hc)
    | (apply ER_blk; (case hp => rfl); (case hb => (simp only [push_cast, seval]; rfl)); (case hd => (simp only [push_cast, seval]; done)); (case h => (intro hc; simp only [push_cast, seval, *]; rfl)); simp only [push_cast, seval, *])
    | fail)
  rename_i n2 h2 n3 h3
  generalize n = n4 at *
  have e2 : H n2 = none := h2
  have e3 : H n3 = none := h3.2
  have e4 : H n4 = none := hn.2.2
  obtain ⟨G, hG⟩ : ∃ G : Heap, G = upd (upd (upd H n2 (.r 47 3 1 [[.l 5 (a.map Tx.av), .l 3 (b.map Nm.av), .l 3 (c.map Rec.av)]])) n3 (.r 26 3 1 [[.c (.int .i64 vs), .c (.int .i64 va), .c (.int .i64 vn)]])) n4 (.r 47 3 1 [zL]) := ⟨_, rfl⟩
  have n24 : ¬ n2 = n4 := hn.2.1.2
  have n23 : ¬ n2 = n3 := h3.1.2
  have n34 : ¬ n3 = n4 := hn.1.2
  have n42 : ¬ n4 = n2 := hn.2.1.1
  have g2 : G n2 = some (.r 47 3 1 [[.l 5 (a.map Tx.av), .l 3 (b.map Nm.av), .l 3 (c.map Rec.av)]]) := by rw [hG, upd_ne n24, upd_ne n23, upd_same]
  have g3 : G n3 = some (.r 26 3 1 [[.c (.int .i64 vs), .c (.int .i64 va), .c (.int .i64 vn)]]) := by rw [hG, upd_ne n34, upd_same]
  have g4 : G n4 = some (.r 47 3 1 [zL]) := by rw [hG, upd_same]
  have hle : Heap.le H G := by rw [hG]; (repeat' (first | exact Heap.le_refl _ | refine hle_upd2 ?_ _ _ | (refine Heap.le_new ?_ ?_; rotate_left 1; focus (first | assumption | (simp only [upd_none2, upd_get, ne_eq, push_cast, seval, *]; done) | (simp [upd_get, *]; done)))))
  rw [show upd (upd (upd H n2 (.r 47 3 1 [[.l 5 (a.map Tx.av), .l 3 (b.map Nm.av), .l 3 (c.map Rec.av)]])) n3 (.r 26 3 1 [[.c (.int .i64 vs), .c (.int .i64 va), .c (.int .i64 vn)]])) n4 (.r 47 3 1 [zL]) = G from hG.symm, upd_self g2]
  clear hG h2 h3 hn hfd hhs hcp
  replace hle := Lib.hid hle
  replace e2 := Lib.hid e2
  replace e4 := Lib.hid e4
  obtain ⟨dn, hdn⟩ : ∃ f : Nat → Bool, f = fun k => decide (i < k) := ⟨_, rfl⟩
  have hdn0 : dn 0 = false := by rw [hdn]; exact decide_eq_false (by omega)
  replace hdn := Lib.hid hdn
  refine AW_loopX (σ := AV × Heap) a.length (fun k s => OwnL s.2 s.1 86 5 (rw' k) G) (fun k s => [(2, .p n2 3 0 0), (3, .p n3 3 0 0), (4, .p n4 3 0 0), (6, s.1), (7, .c (.bool (dn k))), (31, .l 5 (a.map Tx.av)), (32, ci a.length), (33, ci k)]) (fun _ s => s.2) (.c (.slice none 0 0), G) (by rw [unhid hr0]; exact OwnL.nil _ _ _) ?_ ?_ ?_ ?_
  · (first | trivial | (simp only [push_cast, seval, *]; done))
  · exact Heap.le_refl _
  · rintro k ⟨z, S⟩ hk ho
    simp only at ho
    have hx := List.getElem?_eq_getElem (l := a) hk; generalize a[k] = x at hx; have hxm := List.mem_of_getElem? hx; have hkl : (k : Int) < a.length := (by omega); have hkw : IntKind.i64.wrap ((k : Int) + 1) = (k : Int) + 1 := wrap_i64 (by omega) (by omega)
    have hl := unhid hls x.nm
    have hrlk := unhid hrl k
    have g3' := ho.get g3
    have o3 := ne_old g3'
    have zcs := ho.cs
    have zone := ho.one
    have t1 := unhid hr1 k x hx
    have t2 := unhid hr2 k x hx
    have t3 := unhid hr3 k x hx
    have b1 := fun h => unhid hbef k x h hx
    have b2 := fun h => unhid hbeh k x h hx
    have b3 : ¬ x.nm = ⟨vs, va, vn⟩ := fun e => unhid hnot rfl (by rw [← e]; exact List.mem_map_of_mem hxm)
    generalize rw' (k + 1) = R1 at *
    generalize rw' k = R0 at *
    obtain ⟨⟨x1, x2, x3⟩, xst, xrs⟩ := x
    have hxv : Tx.av ⟨⟨x1, x2, x3⟩, xst, xrs⟩ = [.c (.int .i64 x1), .c (.int .i64 x2), .c (.int .i64 x3), .c (.int .i64 xst), .l 3 (xrs.map Rec.av)] := rfl
    have hxn : Nm.av ⟨x1, x2, x3⟩ = [.c (.int .i64 x1), .c (.int .i64 x2), .c (.int .i64 x3)] := rfl
    simp only [hxn] at hl
    rw [hxv] at t1 t2 t3
    simp only at b1 b2 b3
    replace ho := Lib.hid ho
    clear hxm
    rcases Nat.lt_trichotomy k i with hki | hki | hki
    · have hlt : ltN ⟨vs, va, vn⟩ ⟨x1, x2, x3⟩ = false := ltN_false (cmpN_asym (b1 hki))
      rw [hlt] at hl
      have d0 : dn k = false := by rw [unhid hdn]; exact decide_eq_false (by omega)
      have d1 : dn (k + 1) = false := by rw [unhid hdn]; exact decide_eq_false (by omega)
      have ht := t1 hki
      clear t1 t2 t3 b1 b2 b3 hlt hki
      replace ht := Lib.hid ht
      repeat' (first
    | refine AW_seq_kn fun K hK => ?_
    | refine AW_block ?_
    | (refine does_call rfl rfl ?_; simp only [push_cast, seval, *]; refine ACall.monoP (hl _) ?_; (try simp only [push_cast, seval, *]))
    | ((first
      | refine AW_region E0 ?_ | refine AW_ret ?_ | refine AW_exit ?_ | refine AW_skip ?_ | unfold retQ); try simp only [push_cast, seval, *])
    | ((first | (apply AW_cond; (case hc => (simp only [push_cast, seval]; rfl))) | (apply ER_guard; (case hb => (simp only [push_cast, seval]; rfl)))); all_goals ((intro hc; first | (exfalso; simp only [push_cast, seval, *] at hc; done) | (exact absurd hc (by decide)) | ((try first | rw [Bool.not_true] at hc | rw [Bool.not_false] at hc); first | (with_reducible replace hc := tTT hc); clear hc | (with_reducible replace hc := tFF hc); clear hc | (have hp := hc; try simp only [decide_eq_true_eq, decide_eq_false_iff_not, bA, bB, bC, bD, bE, bF, bG, bH] at hp))) <;> try simp only [push_cast, seval, *]))
    | (refine Kn.go hK ?_; clear hK K)
    | refine Kn.go (by assumption) ?_
    | (intro n hn; (try simp only [upd_none2, join_none_iff, ite_none, ne_eq] at hn); (try simp only [push_cast, seval, *]))
    | (intro hc)
    | (apply ER_blk; (case hp => rfl); (case hb => (simp only [push_cast, seval]; rfl)); (case hd => (simp only [push_cast, seval]; done)); (case h => (intro hc; simp only [push_cast, seval, *]; rfl)); simp only [push_cast, seval, *])
    | fail)
      rename_i n9 h9
      refine does_app1 rfl rfl rfl rfl ((Loc.own _ _ _ _).new (unhid ho) h9 _) (by simp only [upd_none2, push_cast, seval, *]) hE44 hS86 hB86 hZ86 rfl (by decide) (by simp only [maxLen]; omega) (by omega) ?_
      intro z2 H2 hz2
      rw [← unhid ht] at hz2
      have zcs2 := hz2.cs
      have zone2 := hz2.one
      obtain ⟨H3, l1, l2⟩ := (Loc.own _ _ _ _).cut hz2 (K := G) (le_upd_new ((Loc.own _ _ _ _).old (unhid ho) h9))
      replace l1 := Lib.hid l1
      replace l2 := Lib.hid l2
      clear hz2 zcs zone ht
      (try simp only [push_cast, seval, *])
      repeat' (first
    | refine AW_seq_kn fun K hK => ?_
    | refine AW_block ?_
    | ((first
      | refine AW_region E0 ?_ | refine AW_ret ?_ | refine AW_exit ?_ | refine AW_skip ?_ | unfold retQ); try simp only [push_cast, seval, *])
    | ((first | (apply AW_cond; (case hc => (simp only [push_cast, seval]; rfl))) | (apply ER_guard; (case hb => (simp only [push_cast, seval]; rfl)))); all_goals ((intro hc; first | (exfalso; simp only [push_cast, seval, *] at hc; done) | (exact absurd hc (by decide)) | ((try first | rw [Bool.not_true] at hc | rw [Bool.not_false] at hc); first | (with_reducible replace hc := tTT hc); clear hc | (with_reducible replace hc := tFF hc); clear hc | (have hp := hc; try simp only [decide_eq_true_eq, decide_eq_false_iff_not, bA, bB, bC, bD, bE, bF, bG, bH] at hp))) <;> try simp only [push_cast, seval, *]))
    | (refine Kn.go hK ?_; clear hK K)
    | refine Kn.go (by assumption) ?_
    | (intro n hn; (try simp only [upd_none2, join_none_iff, ite_none, ne_eq] at hn); (try simp only [push_cast, seval, *]))
    | (intro hc)
    | (apply ER_blk; (case hp => rfl); (case hb => (simp only [push_cast, seval]; rfl)); (case hd => (simp only [push_cast, seval]; done)); (case h => (intro hc; simp only [push_cast, seval, *]; rfl)); simp only [push_cast, seval, *])
    | fail)
      exact ⟨(z2, H3), unhid l2, by (first | trivial | (simp only [push_cast, seval, *]; done)), unhid l1⟩
    · have hlt : ltN ⟨vs, va, vn⟩ ⟨x1, x2, x3⟩ = true := ltN_true (cmpN_tot (b2 (by omega)) b3)
      rw [hlt] at hl
      have d0 : dn k = false := by rw [unhid hdn]; exact decide_eq_false (by omega)
      have d1 : dn (k + 1) = true := by rw [unhid hdn]; exact decide_eq_true (by omega)
      have ht := t2 hki
      rw [unhid hnr] at ht
      clear t1 t2 t3 b1 b2 b3 hlt hki
      replace ht := Lib.hid ht
      repeat' (first
    | refine AW_seq_kn fun K hK => ?_
    | refine AW_block ?_
    | (refine does_call rfl rfl ?_; simp only [push_cast, seval, *]; refine ACall.monoP (hl _) ?_; (try simp only [push_cast, seval, *]))
    | ((first
      | refine AW_region E0 ?_ | refine AW_ret ?_ | refine AW_exit ?_ | refine AW_skip ?_ | unfold retQ); try simp only [push_cast, seval, *])
    | ((first | (apply AW_cond; (case hc => (simp only [push_cast, seval]; rfl))) | (apply ER_guard; (case hb => (simp only [push_cast, seval]; rfl)))); all_goals ((intro hc; first | (exfalso; simp only [push_cast, seval, *] at hc; done) | (exact absurd hc (by decide)) | ((try first | rw [Bool.not_true] at hc | rw [Bool.not_false] at hc); first | (with_reducible replace hc := tTT hc); clear hc | (with_reducible replace hc := tFF hc); clear hc | (have hp := hc; try simp only [decide_eq_true_eq, decide_eq_false_iff_not, bA, bB, bC, bD, bE, bF, bG, bH] at hp))) <;> try simp only [push_cast, seval, *]))
    | (refine Kn.go hK ?_; clear hK K)
    | refine Kn.go (by assumption) ?_
    | (intro n hn; (try simp only [upd_none2, join_none_iff, ite_none, ne_eq] at hn); (try simp only [push_cast, seval, *]))
    | (intro hc)
    | (apply ER_blk; (case hp => rfl); (case hb => (simp only [push_cast, seval]; rfl)); (case hd => (simp only [push_cast, seval]; done)); (case h => (intro hc; simp only [push_cast, seval, *]; rfl)); simp only [push_cast, seval, *])
    | fail)
      rename_i n9 h9
      refine does_app1 rfl rfl rfl rfl ((Loc.own _ _ _ _).new (unhid ho) h9 _) (by simp only [upd_none2, push_cast, seval, *]) hE44 hS86 hB86 hZ86 rfl (by decide) (by simp only [maxLen]; omega) (by omega) ?_
      intro z1 H1 hz1
      have y9 := hz1.get (upd_same _ n9 _)
      have zcs1 := hz1.cs
      have zone1 := hz1.one
      have gn9 := (Loc.own _ _ _ _).old (unhid ho) h9
      replace hz1 := Lib.hid hz1
      clear zcs zone hn
      (try simp only [push_cast, seval, *])
      repeat' (first
    | refine AW_seq_kn fun K hK => ?_
    | refine AW_block ?_
    | ((first
      | refine AW_region E0 ?_ | refine AW_ret ?_ | refine AW_exit ?_ | refine AW_skip ?_ | unfold retQ); try simp only [push_cast, seval, *])
    | ((first | (apply AW_cond; (case hc => (simp only [push_cast, seval]; rfl))) | (apply ER_guard; (case hb => (simp only [push_cast, seval]; rfl)))); all_goals ((intro hc; first | (exfalso; simp only [push_cast, seval, *] at hc; done) | (exact absurd hc (by decide)) | ((try first | rw [Bool.not_true] at hc | rw [Bool.not_false] at hc); first | (with_reducible replace hc := tTT hc); clear hc | (with_reducible replace hc := tFF hc); clear hc | (have hp := hc; try simp only [decide_eq_true_eq, decide_eq_false_iff_not, bA, bB, bC, bD, bE, bF, bG, bH] at hp))) <;> try simp only [push_cast, seval, *]))
    | (refine Kn.go hK ?_; clear hK K)
    | refine Kn.go (by assumption) ?_
    | (intro n hn; (try simp only [upd_none2, join_none_iff, ite_none, ne_eq] at hn); (try simp only [push_cast, seval, *]))
    | (intro hc)
    | (apply ER_blk; (case hp => rfl); (case hb => (simp only [push_cast, seval]; rfl)); (case hd => (simp only [push_cast, seval]; done)); (case h => (intro hc; simp only [push_cast, seval, *]; rfl)); simp only [push_cast, seval, *])
    | fail)
      refine does_app1 rfl rfl rfl rfl (unhid hz1) (by simp only [upd_none2, push_cast, seval, *]) hE44 hS86 hB86 hZ86 rfl (by decide) (by simp only [List.length_append, List.length_singleton, maxLen]; omega) (by simp only [List.length_append, List.length_singleton]; omega) ?_
      intro z2 H2 hz2
      rw [← unhid ht] at hz2
      have zcs2 := hz2.cs
      have zone2 := hz2.one
      obtain ⟨H3, l1, l2⟩ := (Loc.own _ _ _ _).cut hz2 (K := G) (le_upd_new gn9)
      replace l1 := Lib.hid l1
      replace l2 := Lib.hid l2
      clear hz2 hz1 zcs1 zone1 ht
      (try simp only [push_cast, seval, *])
      repeat' (first
    | refine AW_seq_kn fun K hK => ?_
    | refine AW_block ?_
    | ((first
      | refine AW_region E0 ?_ | refine AW_ret ?_ | refine AW_exit ?_ | refine AW_skip ?_ | unfold retQ); try simp only [push_cast, seval, *])
    | ((first | (apply AW_cond; (case hc => (simp only [push_cast, seval]; rfl))) | (apply ER_guard; (case hb => (simp only [push_cast, seval]; rfl)))); all_goals ((intro hc; first | (exfalso; simp only [push_cast, seval, *] at hc; done) | (exact absurd hc (by decide)) | ((try first | rw [Bool.not_true] at hc | rw [Bool.not_false] at hc); first | (with_reducible replace hc := tTT hc); clear hc | (with_reducible replace hc := tFF hc); clear hc | (have hp := hc; try simp only [decide_eq_true_eq, decide_eq_false_iff_not, bA, bB, bC, bD, bE, bF, bG, bH] at hp))) <;> try simp only [push_cast, seval, *]))
    | (refine Kn.go hK ?_; clear hK K)
    | refine Kn.go (by assumption) ?_
    | (intro n hn; (try simp only [upd_none2, join_none_iff, ite_none, ne_eq] at hn); (try simp only [push_cast, seval, *]))
    | (intro hc)
    | (apply ER_blk; (case hp => rfl); (case hb => (simp only [push_cast, seval]; rfl)); (case hd => (simp only [push_cast, seval]; done)); (case h => (intro hc; simp only [push_cast, seval, *]; rfl)); simp only [push_cast, seval, *])
    | fail)
      exact ⟨(z2, H3), unhid l2, by (first | trivial | (simp only [push_cast, seval, *]; done)), unhid l1⟩
    · have d0 : dn k = true := by rw [unhid hdn]; exact decide_eq_true (by omega)
      have d1 : dn (k + 1) = true := by rw [unhid hdn]; exact decide_eq_true (by omega)
      have ht := t3 hki
      clear t1 t2 t3 b1 b2 b3 hki hl
      replace ht := Lib.hid ht
      repeat' (first
    | refine AW_seq_kn fun K hK => ?_
    | refine AW_block ?_
    | ((first
      | refine AW_region E0 ?_ | refine AW_ret ?_ | refine AW_exit ?_ | refine AW_skip ?_ | unfold retQ); try simp only [push_cast, seval, *])
    | ((first | (apply AW_cond; (case hc => (simp only [push_cast, seval]; rfl))) | (apply ER_guard; (case hb => (simp only [push_cast, seval]; rfl)))); all_goals ((intro hc; first | (exfalso; simp only [push_cast, seval, *] at hc; done) | (exact absurd hc (by decide)) | ((try first | rw [Bool.not_true] at hc | rw [Bool.not_false] at hc); first | (with_reducible replace hc := tTT hc); clear hc | (with_reducible replace hc := tFF hc); clear hc | (have hp := hc; try simp only [decide_eq_true_eq, decide_eq_false_iff_not, bA, bB, bC, bD, bE, bF, bG, bH] at hp))) <;> try simp only [push_cast, seval, *]))
    | (refine Kn.go hK ?_; clear hK K)
    | refine Kn.go (by assumption) ?_
    | (intro n hn; (try simp only [upd_none2, join_none_iff, ite_none, ne_eq] at hn); (try simp only [push_cast, seval, *]))
    | (intro hc)
    | (apply ER_blk; (case hp => rfl); (case hb => (simp only [push_cast, seval]; rfl)); (case hd => (simp only [push_cast, seval]; done)); (case h => (intro hc; simp only [push_cast, seval, *]; rfl)); simp only [push_cast, seval, *])
    | fail)
      rename_i n9 h9
      refine does_app1 rfl rfl rfl rfl ((Loc.own _ _ _ _).new (unhid ho) h9 _) (by simp only [upd_none2, push_cast, seval, *]) hE44 hS86 hB86 hZ86 rfl (by decide) (by simp only [maxLen]; omega) (by omega) ?_
      intro z2 H2 hz2
      rw [← unhid ht] at hz2
      have zcs2 := hz2.cs
      have zone2 := hz2.one
      obtain ⟨H3, l1, l2⟩ := (Loc.own _ _ _ _).cut hz2 (K := G) (le_upd_new ((Loc.own _ _ _ _).old (unhid ho) h9))
      replace l1 := Lib.hid l1
      replace l2 := Lib.hid l2
      clear hz2 zcs zone ht
      (try simp only [push_cast, seval, *])
      repeat' (first
    | refine AW_seq_kn fun K hK => ?_
    | refine AW_block ?_
    | ((first
      | refine AW_region E0 ?_ | refine AW_ret ?_ | refine AW_exit ?_ | refine AW_skip ?_ | unfold retQ); try simp only [push_cast, seval, *])
    | ((first | (apply AW_cond; (case hc => (simp only [push_cast, seval]; rfl))) | (apply ER_guard; (case hb => (simp only [push_cast, seval]; rfl)))); all_goals ((intro hc; first | (exfalso; simp only [push_cast, seval, *] at hc; done) | (exact absurd hc (by decide)) | ((try first | rw [Bool.not_true] at hc | rw [Bool.not_false] at hc); first | (with_reducible replace hc := tTT hc); clear hc | (with_reducible replace hc := tFF hc); clear hc | (have hp := hc; try simp only [decide_eq_true_eq, decide_eq_false_iff_not, bA, bB, bC, bD, bE, bF, bG, bH] at hp))) <;> try simp only [push_cast, seval, *]))
    | (refine Kn.go hK ?_; clear hK K)
    | refine Kn.go (by assumption) ?_
    | (intro n hn; (try simp only [upd_none2, join_none_iff, ite_none, ne_eq] at hn); (try simp only [push_cast, seval, *]))
    | (intro hc)
    | (apply ER_blk; (case hp => rfl); (case hb => (simp only [push_cast, seval]; rfl)); (case hd => (simp only [push_cast, seval]; done)); (case h => (intro hc; simp only [push_cast, seval, *]; rfl)); simp only [push_cast, seval, *])
    | fail)
      exact ⟨(z2, H3), unhid l2, by (first | trivial | (simp only [push_cast, seval, *]; done)), unhid l1⟩
  · rintro ⟨z, S⟩ ho
    simp only at ho
    have hrlk := unhid hrl a.length
    have hnv1 : ∀ F : Mem, Imp F F (.l 5 ((a.take i).map Tx.av ++ [nr] ++ (a.drop i).map Tx.av)) (.l 5 (N.txs.map Tx.av)) := fun F => by
      rw [(unhid hNa).1, List.map_append, List.map_append]
      refine Imp_row (sz := 5) (A := (a.take i).map Tx.av) (B := (a.drop i).map Tx.av) (r := nr) (r' := Tx.av ⟨⟨vs, va, vn⟩, 1, []⟩) (fun e he => ?_) rfl (fun j y hy => ?_) F
      · rcases he with he | he <;> (obtain ⟨q, -, rfl⟩ := List.mem_map.1 he; exact tx_row q)
      · rw [unhid hnr]
        match j, hy with
        | 0, hy => cases hy; exact ⟨rfl, _, rfl, fun F => Imp.refl (Mem.le.refl F) _⟩
        | 1, hy => cases hy; exact ⟨rfl, _, rfl, fun F => Imp.refl (Mem.le.refl F) _⟩
        | 2, hy => cases hy; exact ⟨rfl, _, rfl, fun F => Imp.refl (Mem.le.refl F) _⟩
        | 3, hy => cases hy; exact ⟨rfl, _, rfl, fun F => Imp.refl (Mem.le.refl F) _⟩
        | 4, hy => cases hy; exact ⟨rfl, _, rfl, fun F => Imp.nil_l 3⟩
        | j + 5, hy => simp [Tx.av] at hy
    have hNd : N = ⟨N.txs, b, c⟩ := by obtain ⟨q1, q2, q3⟩ := unhid hNa; rw [← q2, ← q3]
    have hNav : N.av = [.l 5 (N.txs.map Tx.av), .l 3 (b.map Nm.av), .l 3 (c.map Rec.av)] := by rw [hNd]; rfl
    have fin : ∀ (z' : AV) (S' : Heap), OwnL S' z' 86 5 ((a.take i).map Tx.av ++ [nr] ++ (a.drop i).map Tx.av) G → ∃ S2, Heap.le S2 S' ∧ S2 n2 = none ∧ S2 n4 = none ∧ Weak (.t [.g [z', .l 3 (b.map Nm.av), .l 3 (c.map Rec.av)], .c (.int .i64 0)]) S2 (.t [.g N.av, .c (.int .i64 0)]) H := fun z' S' h => by
      obtain ⟨S2, v1, v2, v3⟩ := (Loc.own _ _ _ _).cutx h (unhid hle)
      refine ⟨S2, v1, v3 n2 (by rw [g2]; simp) (unhid e2), v3 n4 (by rw [g4]; simp) (unhid e4), ?_⟩
      rw [hNav]
      exact (OwnL.wp v2).weak fun F F' hF hi => Imp.t (Imps.cons (Imp.g (Imps.cons (hi.1.trans (hnv1 F')) (fun _ => rfl) (Imps.refl hF _))) (fun h => by cases h) (Imps.refl hF _))
    have g2' := ho.get g2
    have g4' := ho.get g4
    have g3' := ho.get g3
    have o2 := ne_old g2'
    have o3 := ne_old g3'
    have o4 := ne_old g4'
    have zcs := ho.cs
    have zone := ho.one
    have d5 := unhid hr5
    have d4 := unhid hr4
    rcases Nat.lt_or_ge i a.length with hia | hia
    · have dk : dn a.length = true := by rw [unhid hdn]; exact decide_eq_true hia
      rw [d4 hia] at ho
      obtain ⟨S2, f1, f2, f3, f4⟩ := fin z S ho
      replace f1 := Lib.hid f1
      replace f2 := Lib.hid f2
      replace f3 := Lib.hid f3
      replace f4 := Lib.hid f4
      clear ho fin hnv1 hNd hNav d5 d4
      repeat' (first
    | refine AW_seq_kn fun K hK => ?_
    | refine AW_block ?_
    | ((first
      | refine AW_region E0 ?_ | refine AW_ret ?_ | refine AW_exit ?_ | refine AW_skip ?_ | unfold retQ); try simp only [push_cast, seval, *])
    | ((first | (apply AW_cond; (case hc => (simp only [push_cast, seval]; rfl))) | (apply ER_guard; (case hb => (simp only [push_cast, seval]; rfl)))); all_goals ((intro hc; first | (exfalso; simp only [push_cast, seval, *] at hc; done) | (exact absurd hc (by decide)) | ((try first | rw [Bool.not_true] at hc | rw [Bool.not_false] at hc); first | (with_reducible replace hc := tTT hc); clear hc | (with_reducible replace hc := tFF hc); clear hc | (have hp := hc; try simp only [decide_eq_true_eq, decide_eq_false_iff_not, bA, bB, bC, bD, bE, bF, bG, bH] at hp))) <;> try simp only [push_cast, seval, *]))
    | (refine Kn.go hK ?_; clear hK K)
    | refine Kn.go (by assumption) ?_
    | (intro n hn; (try simp only [upd_none2, join_none_iff, ite_none, ne_eq] at hn); (try simp only [push_cast, seval, *]))
    | (intro hc)
    | (apply ER_blk; (case hp => rfl); (case hb => (simp only [push_cast, seval]; rfl)); (case hd => (simp only [push_cast, seval]; done)); (case h => (intro hc; simp only [push_cast, seval, *]; rfl)); simp only [push_cast, seval, *])
    | fail)
      exact ⟨_, H, Weak.trans (Weak.less (H' := S2) (by repeat' (first | exact unhid f1 | refine le_skip ?_ (unhid f2) | refine le_skip ?_ (unhid f3)))) (unhid f4), rfl, rfl⟩
    · have dk : dn a.length = false := by rw [unhid hdn]; exact decide_eq_false (by omega)
      have hia2 := d5 (by omega)
      rw [unhid hnr] at hia2 fin
      generalize rw' a.length = R0 at *
      replace ho := Lib.hid ho
      replace fin := Lib.hid fin
      replace hia2 := Lib.hid hia2
      clear hnv1 hNd hNav d5 d4
      repeat' (first
    | refine AW_seq_kn fun K hK => ?_
    | refine AW_block ?_
    | ((first
      | refine AW_region E0 ?_ | refine AW_ret ?_ | refine AW_exit ?_ | refine AW_skip ?_ | unfold retQ); try simp only [push_cast, seval, *])
    | ((first | (apply AW_cond; (case hc => (simp only [push_cast, seval]; rfl))) | (apply ER_guard; (case hb => (simp only [push_cast, seval]; rfl)))); all_goals ((intro hc; first | (exfalso; simp only [push_cast, seval, *] at hc; done) | (exact absurd hc (by decide)) | ((try first | rw [Bool.not_true] at hc | rw [Bool.not_false] at hc); first | (with_reducible replace hc := tTT hc); clear hc | (with_reducible replace hc := tFF hc); clear hc | (have hp := hc; try simp only [decide_eq_true_eq, decide_eq_false_iff_not, bA, bB, bC, bD, bE, bF, bG, bH] at hp))) <;> try simp only [push_cast, seval, *]))
    | (refine Kn.go hK ?_; clear hK K)
    | refine Kn.go (by assumption) ?_
    | (intro n hn; (try simp only [upd_none2, join_none_iff, ite_none, ne_eq] at hn); (try simp only [push_cast, seval, *]))
    | (intro hc)
    | (apply ER_blk; (case hp => rfl); (case hb => (simp only [push_cast, seval]; rfl)); (case hd => (simp only [push_cast, seval]; done)); (case h => (intro hc; simp only [push_cast, seval, *]; rfl)); simp only [push_cast, seval, *])
    | fail)
      refine does_app1 rfl rfl rfl rfl (unhid ho) (by simp only [upd_none2, push_cast, seval, *]) hE44 hS86 hB86 hZ86 rfl (by decide) (by simp only [maxLen]; omega) (by omega) ?_
      intro z2 H2 hz2
      have zcs2 := hz2.cs
      have zone2 := hz2.one
      have y2 := hz2.get g2
      have y4 := hz2.get g4
      rw [unhid hia2] at hz2
      obtain ⟨S2, f1, f2, f3, f4⟩ := unhid fin z2 H2 hz2
      replace f1 := Lib.hid f1
      replace f2 := Lib.hid f2
      replace f3 := Lib.hid f3
      replace f4 := Lib.hid f4
      clear hz2 zcs zone g2' g3' g4' o2 o3 o4
      (try simp only [push_cast, seval, *])
      repeat' (first
    | refine AW_seq_kn fun K hK => ?_
    | refine AW_block ?_
    | ((first
      | refine AW_region E0 ?_ | refine AW_ret ?_ | refine AW_exit ?_ | refine AW_skip ?_ | unfold retQ); try simp only [push_cast, seval, *])
    | ((first | (apply AW_cond; (case hc => (simp only [push_cast, seval]; rfl))) | (apply ER_guard; (case hb => (simp only [push_cast, seval]; rfl)))); all_goals ((intro hc; first | (exfalso; simp only [push_cast, seval, *] at hc; done) | (exact absurd hc (by decide)) | ((try first | rw [Bool.not_true] at hc | rw [Bool.not_false] at hc); first | (with_reducible replace hc := tTT hc); clear hc | (with_reducible replace hc := tFF hc); clear hc | (have hp := hc; try simp only [decide_eq_true_eq, decide_eq_false_iff_not, bA, bB, bC, bD, bE, bF, bG, bH] at hp))) <;> try simp only [push_cast, seval, *]))
    | (refine Kn.go hK ?_; clear hK K)
    | refine Kn.go (by assumption) ?_
    | (intro n hn; (try simp only [upd_none2, join_none_iff, ite_none, ne_eq] at hn); (try simp only [push_cast, seval, *]))
    | (intro hc)
    | (apply ER_blk; (case hp => rfl); (case hb => (simp only [push_cast, seval]; rfl)); (case hd => (simp only [push_cast, seval]; done)); (case h => (intro hc; simp only [push_cast, seval, *]; rfl)); simp only [push_cast, seval, *])
    | fail)
      exact ⟨_, H, Weak.trans (Weak.less (H' := S2) (by repeat' (first | exact unhid f1 | refine le_skip ?_ (unhid f2) | refine le_skip ?_ (unhid f3)))) (unhid f4), rfl, rfl⟩
end Go.Proofs.Ytdeckjoeggmagaa
