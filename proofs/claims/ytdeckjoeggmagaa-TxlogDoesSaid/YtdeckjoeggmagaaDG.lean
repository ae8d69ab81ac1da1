/- Walks of the document: Abort, Open, Ready. -/
import Derived.Test.YtdeckjoeggmagaaDF
import Derived.Test.YtdeckjoeggmagaaDA
import Derived.Test.YtdeckjoeggmagaaR
import Derived.Test.YtdeckjoeggmagaaW
namespace Go.Proofs.Ytdeckjoeggmagaa
open Go.RowKit
open Nat renaming reduceEqDiff → nA, reduceLT → nB, reduceLeDiff → nC, reduceAdd → nD, reduceMul → nE, reduceSub → nF, reduceBEq → nG
open Int renaming reduceToNat → iA, reduceLT → iB, reduceLE → iC, reduceEq → iD
open Bool renaming and_eq_true → bA, or_eq_true → bB, or_eq_false_iff → bC, and_eq_false_iff → bD, not_eq_true' → bE, not_eq_false' → bF, not_true → bG, not_false → bH
set_option linter.all false
set_option maxHeartbeats 4000000
attribute [local irreducible] AW Does ACall tE tS tB tZ
set_option maxRecDepth 5000

theorem fdG_none {v : Nm} : ∀ {l : List Tx} {i : Nat}, ¬ v ∈ l.map Tx.nm → fdG l v i = -1
  | [], i, _ => rfl
  | x :: l, i, h => by
    simp only [List.map_cons, List.mem_cons, not_or] at h
    rw [fdG, if_neg (fun e => h.1 e.symm)]
    exact fdG_none h.2
theorem fdG_some {v : Nm} : ∀ {l : List Tx} {i j : Nat} {x : Tx}, l[j]? = some x → x.nm = v → (∀ m y, m < j → l[m]? = some y → ¬ y.nm = v) → fdG l v i = ((i + j : Nat) : Int)
  | [], i, j, x, h, _, _ => by simp at h
  | z :: l, i, 0, x, h, e, _ => by
    simp only [List.getElem?_cons_zero, Option.some.injEq] at h
    subst h
    rw [fdG, if_pos e]; rfl
  | z :: l, i, j + 1, x, h, e, hb => by
    simp only [List.getElem?_cons_succ] at h
    have h0 := hb 0 z (by omega) rfl
    rw [fdG, if_neg h0, fdG_some (i := i + 1) h e (fun m y hm hy => hb (m + 1) y (by omega) (by simpa using hy))]
    congr 1; omega
theorem fd_at {l : List Tx} (h : RiseT l) (v : Nm) : fdG l v 0 = if atB l v = true then (atI l v : Int) else -1 := by
  cases hb : atB l v
  · rw [if_neg (by decide)]
    exact fdG_none ((atB_not h).1 hb)
  · rw [if_pos rfl]
    obtain ⟨x, hx, e⟩ := at_true hb
    have := fdG_some (i := 0) hx e (fun m y hm hy => fun ey => by have := at_before hm hy; rw [ey] at this; have h0 := cmpN_zero.2 (show v = v from rfl); omega)
    rw [this]; congr 1; omega
theorem zero_weak (H : Heap) (e : Int) : Weak (.t [.g zL, .c (.int .i64 e)]) H (.t [.g zeroL.av, .c (.int .i64 e)]) H := OwnG.weak (OwnG_nil H) [.int .i64 e]
theorem ltN_true {a b : Nm} (h : cmpN a b < 0) : ltN a b = true := by unfold ltN; rw [cmpN_neg] at h; exact decide_eq_true h
theorem ltN_false {a b : Nm} (h : ¬ cmpN a b < 0) : ltN a b = false := by unfold ltN; rw [cmpN_neg] at h; exact decide_eq_false h
theorem filter_snoc {α : Type} {l : List α} {k : Nat} {x : α} (p : α → Bool) (hx : l[k]? = some x) : (l.take (k + 1)).filter p = (l.take k).filter p ++ if p x = true then [x] else [] := by
  rw [take_snoc hx, List.filter_append]
  cases h : p x <;> simp [h]
theorem refAbort_p (l : Lg) (hf : l.fits) (keep : List Nm) (hk : keep.length ≤ maxLen) : Pure Try.prog 70 [.g (Lg.av l), .l 3 (keep.map Nm.av)] (.t [.g (abortL l keep).av, .c (.int .i64 ((l.txs.length - (abortL l keep).txs.length : Nat) : Int))]) := by
  intro H
  have hcp := Copy_p l hf
  have hl1 := hf.1.1
  have hhs := fun v => rhas_p keep hk v
  unfold abortL
  obtain ⟨a, b, c⟩ := l
  simp only at hl1 ⊢
  simp only [Lg.av] at hcp ⊢
  have hE44 := tE44
  have hS86 := tS86
  have hB86 := tB86
  have hZ86 := tZ86
  have hsn := fun k x (hx : a[k]? = some x) => filter_snoc (kept keep) hx
  have hfl := fun k => List.length_filter_le (kept keep) (a.take k)
  clear hf
  replace hhs := Lib.hid hhs
  replace hsn := Lib.hid hsn
  replace hfl := Lib.hid hfl
  refine ACall_of' Try.func70 rfl (Ent_of Try.func70 (by kernel_rfl) rfl) (by simp [Try.ntmps70]) ?_; simp only [Try.ntmps70, Try.results70]
  repeat' (first
    | refine AW_seq_kn fun K hK => ?_
    | refine AW_block ?_
    | (refine does_call rfl rfl ?_; simp only [push_cast, seval, *]; refine ACall.monoP (hcp _) ?_; (try simp only [push_cast, seval, *]))
    | ((first
      | refine AW_region E0 ?_ | refine AW_ret ?_ | refine AW_exit ?_ | refine AW_skip ?_ | unfold retQ); try simp only [push_cast, seval, *])
    | (apply AW_cond; (case hc => (simp only [push_cast, seval]; rfl)); all_goals (intro hc; first | (exfalso; simp only [push_cast, seval, *] at hc; done) | (exact absurd hc (by decide)) | ((try first | rw [Bool.not_true] at hc | rw [Bool.not_false] at hc); first | (with_reducible replace hc := tTT hc); clear hc | (with_reducible replace hc := tFF hc); clear hc | (have hp := hc; try simp only [decide_eq_true_eq, decide_eq_false_iff_not, bA, bB, bC, bD, bE, bF, bG, bH] at hp))))
    | (refine Kn.go hK ?_; clear hK K)
    | refine Kn.go (by assumption) ?_
    | (intro n hn; (try simp only [upd_none2, join_none_iff, ite_none, ne_eq] at hn); (try simp only [push_cast, seval, *]))
    | (intro hc)
    | fail)
  rename_i n1 h1
  generalize n = n2 at *
  have n21 : ¬ n2 = n1 := hn.1.1
  have n12 : ¬ n1 = n2 := hn.1.2
  have e1 : H n1 = none := h1
  have e2 : H n2 = none := hn.2
  rw [upd_comm n21, upd_upd]
  obtain ⟨G, hG⟩ : ∃ G : Heap, G = upd (upd H n1 (.r 47 3 1 [[.l 5 (a.map Tx.av), .l 3 (b.map Nm.av), .l 3 (c.map Rec.av)]])) n2 (.r 47 3 1 [zL]) := ⟨_, rfl⟩
  have g1 : G n1 = some (.r 47 3 1 [[.l 5 (a.map Tx.av), .l 3 (b.map Nm.av), .l 3 (c.map Rec.av)]]) := by rw [hG, upd_ne n12, upd_same]
  have g2 : G n2 = some (.r 47 3 1 [zL]) := by rw [hG, upd_same]
  have hle : Heap.le H G := by rw [hG]; exact le_new2 e1 e2 n21
  rw [← hG]
  clear hG h1 hn hcp
  replace hle := Lib.hid hle
  replace e1 := Lib.hid e1
  replace e2 := Lib.hid e2
  refine AW_loopX (σ := AV × Heap) a.length (fun k s => OwnL s.2 s.1 86 5 (((a.take k).filter (kept keep)).map Tx.av) G) (fun k s => [(1, .l 3 (keep.map Nm.av)), (2, .p n1 3 0 0), (4, .p n2 3 0 0), (6, s.1), (13, .l 5 (a.map Tx.av)), (14, ci a.length), (15, ci k)]) (fun _ s => s.2) (.c (.slice none 0 0), G) (OwnL.nil _ _ _) ?_ ?_ ?_ ?_
  · (first | trivial | (simp only [push_cast, seval, *]; done))
  · exact Heap.le_refl _
  · rintro k ⟨z, S⟩ hk ho
    simp only at ho
    have hx := List.getElem?_eq_getElem (l := a) hk; generalize a[k] = x at hx; have hxm := List.mem_of_getElem? hx; have hkl : (k : Int) < a.length := (by omega); have hkw : IntKind.i64.wrap ((k : Int) + 1) = (k : Int) + 1 := wrap_i64 (by omega) (by omega)
    have hs := unhid hsn k x hx
    have hf := unhid hfl k
    rw [List.length_take] at hf
    have hh := unhid hhs x.nm
    have hkx : kept keep x = decide (x.nm ∈ keep) := rfl
    rw [hkx] at hs
    have g3 := ho.get g1
    have zcs := ho.cs
    have zone := ho.one
    generalize (a.take k).filter (kept keep) = F at *
    generalize (a.take (k + 1)).filter (kept keep) = F2 at *
    obtain ⟨⟨x1, x2, x3⟩, xst, xrs⟩ := x
    have hxv : Tx.av ⟨⟨x1, x2, x3⟩, xst, xrs⟩ = [.c (.int .i64 x1), .c (.int .i64 x2), .c (.int .i64 x3), .c (.int .i64 xst), .l 3 (xrs.map Rec.av)] := rfl
    have hnv : Nm.av ⟨x1, x2, x3⟩ = [.c (.int .i64 x1), .c (.int .i64 x2), .c (.int .i64 x3)] := rfl
    simp only [hnv] at hh hs
    replace ho := Lib.hid ho
    clear hxm hkx
    by_cases hm : (⟨x1, x2, x3⟩ : Nm) ∈ keep
    · rw [decide_eq_true hm] at hh hs
      simp only [if_true] at hs
      subst hs
      clear hm
      repeat' (first
    | refine AW_seq_kn fun K hK => ?_
    | refine AW_block ?_
    | (refine does_call rfl rfl ?_; simp only [push_cast, seval, *]; refine ACall.monoP (hh _) ?_; (try simp only [push_cast, seval, *]))
    | ((first
      | refine AW_region E0 ?_ | refine AW_ret ?_ | refine AW_exit ?_ | refine AW_skip ?_ | unfold retQ); try simp only [push_cast, seval, *])
    | (apply AW_cond; (case hc => (simp only [push_cast, seval]; rfl)); all_goals (intro hc; first | (exfalso; simp only [push_cast, seval, *] at hc; done) | (exact absurd hc (by decide)) | ((try first | rw [Bool.not_true] at hc | rw [Bool.not_false] at hc); first | (with_reducible replace hc := tTT hc); clear hc | (with_reducible replace hc := tFF hc); clear hc | (have hp := hc; try simp only [decide_eq_true_eq, decide_eq_false_iff_not, bA, bB, bC, bD, bE, bF, bG, bH] at hp))))
    | (refine Kn.go hK ?_; clear hK K)
    | refine Kn.go (by assumption) ?_
    | (intro n hn; (try simp only [upd_none2, join_none_iff, ite_none, ne_eq] at hn); (try simp only [push_cast, seval, *]))
    | (intro hc)
    | fail)
      rename_i n7 h7
      refine does_app1 rfl rfl rfl rfl ((Loc.own _ _ _ _).new (unhid ho) h7 _) (by simp only [upd_none2, push_cast, seval, *]) hE44 hS86 hB86 hZ86 rfl (by decide) (by simp only [List.length_map, maxLen]; omega) (by simp only [List.length_map]; omega) ?_
      intro z2 H2 hz2
      have zcs2 := hz2.cs
      have zone2 := hz2.one
      obtain ⟨H3, l1, l2⟩ := (Loc.own _ _ _ _).cut hz2 (K := G) (le_upd_new ((Loc.own _ _ _ _).old (unhid ho) h7))
      have l2' : OwnL H3 z2 86 5 ((F ++ [(⟨⟨x1, x2, x3⟩, xst, xrs⟩ : Tx)]).map Tx.av) G := by rw [List.map_append]; exact l2
      replace l1 := Lib.hid l1
      replace l2' := Lib.hid l2'
      clear hz2 l2 zcs zone
      (try simp only [push_cast, seval, *])
      repeat' (first
    | refine AW_seq_kn fun K hK => ?_
    | refine AW_block ?_
    | ((first
      | refine AW_region E0 ?_ | refine AW_ret ?_ | refine AW_exit ?_ | refine AW_skip ?_ | unfold retQ); try simp only [push_cast, seval, *])
    | (apply AW_cond; (case hc => (simp only [push_cast, seval]; rfl)); all_goals (intro hc; first | (exfalso; simp only [push_cast, seval, *] at hc; done) | (exact absurd hc (by decide)) | ((try first | rw [Bool.not_true] at hc | rw [Bool.not_false] at hc); first | (with_reducible replace hc := tTT hc); clear hc | (with_reducible replace hc := tFF hc); clear hc | (have hp := hc; try simp only [decide_eq_true_eq, decide_eq_false_iff_not, bA, bB, bC, bD, bE, bF, bG, bH] at hp))))
    | (refine Kn.go hK ?_; clear hK K)
    | refine Kn.go (by assumption) ?_
    | (intro n hn; (try simp only [upd_none2, join_none_iff, ite_none, ne_eq] at hn); (try simp only [push_cast, seval, *]))
    | (intro hc)
    | fail)
      exact ⟨(z2, H3), unhid l2', by (first | trivial | (simp only [push_cast, seval, *]; done)), unhid l1⟩
    · rw [decide_eq_false hm] at hh hs
      simp only [Bool.false_eq_true, if_false, List.append_nil] at hs
      subst hs
      clear hm
      repeat' (first
    | refine AW_seq_kn fun K hK => ?_
    | refine AW_block ?_
    | (refine does_call rfl rfl ?_; simp only [push_cast, seval, *]; refine ACall.monoP (hh _) ?_; (try simp only [push_cast, seval, *]))
    | ((first
      | refine AW_region E0 ?_ | refine AW_ret ?_ | refine AW_exit ?_ | refine AW_skip ?_ | unfold retQ); try simp only [push_cast, seval, *])
    | (apply AW_cond; (case hc => (simp only [push_cast, seval]; rfl)); all_goals (intro hc; first | (exfalso; simp only [push_cast, seval, *] at hc; done) | (exact absurd hc (by decide)) | ((try first | rw [Bool.not_true] at hc | rw [Bool.not_false] at hc); first | (with_reducible replace hc := tTT hc); clear hc | (with_reducible replace hc := tFF hc); clear hc | (have hp := hc; try simp only [decide_eq_true_eq, decide_eq_false_iff_not, bA, bB, bC, bD, bE, bF, bG, bH] at hp))))
    | (refine Kn.go hK ?_; clear hK K)
    | refine Kn.go (by assumption) ?_
    | (intro n hn; (try simp only [upd_none2, join_none_iff, ite_none, ne_eq] at hn); (try simp only [push_cast, seval, *]))
    | (intro hc)
    | fail)
      exact ⟨(z, S), unhid ho, by (first | trivial | (simp only [push_cast, seval, *]; done)), by first | trivial | (repeat' (first | exact Heap.le_refl _ | refine hle_upd2 ?_ _ _ | (refine Heap.le_new ?_ ?_; rotate_left 1; focus (first | assumption | (simp only [upd_none2, upd_get, ne_eq, push_cast, seval, *]; done) | (simp [upd_get, *]; done)))))⟩
  · rintro ⟨z, S⟩ ho
    have hf := unhid hfl a.length
    simp only [List.take_length] at ho hf
    obtain ⟨F, hF⟩ : ∃ F, F = a.filter (kept keep) := ⟨_, rfl⟩
    rw [← hF] at ho hf ⊢
    have hsub : IntKind.i64.wrap ((a.length : Int) - F.length) = ((a.length - F.length : Nat) : Int) := by rw [wrap_i64 (by omega) (by omega)]; omega
    have g3 := ho.get g1
    have g4 := ho.get g2
    have zcs := ho.cs
    have zone := ho.one
    have zl := ho.len
    rw [List.length_map] at zl
    obtain ⟨S2, v1, v2, v3⟩ := (Loc.own _ _ _ _).cutx ho (unhid hle)
    have v4 := v3 n1 (by rw [g1]; simp) (unhid e1)
    have v5 := v3 n2 (by rw [g2]; simp) (unhid e2)
    obtain ⟨D, hD⟩ : ∃ D, D = a.length - F.length := ⟨_, rfl⟩
    rw [← hD] at hsub ⊢
    replace v1 := Lib.hid v1
    replace v2 := Lib.hid v2
    replace v4 := Lib.hid v4
    replace v5 := Lib.hid v5
    replace hF := Lib.hid hF
    replace hD := Lib.hid hD
    clear ho v3 hf
    repeat' (first
    | refine AW_seq_kn fun K hK => ?_
    | refine AW_block ?_
    | ((first
      | refine AW_region E0 ?_ | refine AW_ret ?_ | refine AW_exit ?_ | refine AW_skip ?_ | unfold retQ); try simp only [push_cast, seval, *])
    | (apply AW_cond; (case hc => (simp only [push_cast, seval]; rfl)); all_goals (intro hc; first | (exfalso; simp only [push_cast, seval, *] at hc; done) | (exact absurd hc (by decide)) | ((try first | rw [Bool.not_true] at hc | rw [Bool.not_false] at hc); first | (with_reducible replace hc := tTT hc); clear hc | (with_reducible replace hc := tFF hc); clear hc | (have hp := hc; try simp only [decide_eq_true_eq, decide_eq_false_iff_not, bA, bB, bC, bD, bE, bF, bG, bH] at hp))))
    | (refine Kn.go hK ?_; clear hK K)
    | refine Kn.go (by assumption) ?_
    | (intro n hn; (try simp only [upd_none2, join_none_iff, ite_none, ne_eq] at hn); (try simp only [push_cast, seval, *]))
    | (intro hc)
    | fail)
    refine ⟨_, H, Weak.trans (Weak.less (H' := S2) ?_) ((OwnL.wp (unhid v2)).weak fun F F' hF hi => Imp.t (Imps.cons (Imp.g (Imps.cons hi.1 (fun _ => rfl) (Imps.refl hF _))) (fun h => by cases h) (Imps.refl hF _))), by rw [unhid hD, unhid hF], rfl⟩
    repeat' (first | exact unhid v1 | refine le_skip ?_ (unhid v4) | refine le_skip ?_ (unhid v5))
end Go.Proofs.Ytdeckjoeggmagaa
