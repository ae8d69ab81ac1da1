/- Walks: what an iterator with memory of its own tells, collected; run, Run, Do. -/
import Derived.Test.YtmkncbddjnaklaaE
import Derived.Test.YtmkncbddjnaklaaMD
namespace Go.Proofs.Ytmkncbddjnaklaa
open Go.RowKit
open Nat renaming reduceEqDiff → nA, reduceLT → nB, reduceLeDiff → nC, reduceAdd → nD, reduceMul → nE, reduceSub → nF, reduceBEq → nG
open Int renaming reduceToNat → iA, reduceLT → iB, reduceLE → iC, reduceEq → iD
open Bool renaming and_eq_true → bA, or_eq_true → bB, or_eq_false_iff → bC, and_eq_false_iff → bD, not_eq_true' → bE, not_eq_false' → bF, not_true → bG, not_false → bH
set_option linter.all false
set_option maxHeartbeats 4000000
attribute [local irreducible] AW Does ACall tE tS tB tZ

theorem ownL_join {A B B0 : Heap} {x : AV} {ty : TypeId} {sz : Nat} {rows : List (List AV)} (hap : Apart A B) (h : OwnL B x ty sz rows B0) : OwnL (join A B) x ty sz rows (join A B0) := by
  rcases h with ⟨h1, h2, rfl⟩ | ⟨n, cap, h1, h2, rfl⟩
  · exact .inl ⟨h1, h2, rfl⟩
  · have hA : A n = none := by
      rcases hap n with g | g
      · exact g
      · rw [h2] at g; cases g
    refine .inr ⟨n, cap, h1, by rw [join_right hA]; exact h2, ?_⟩
    funext m
    unfold join del
    by_cases e : m = n
    · subst e; simp [hA]
    · simp [e]
theorem apart_le {A B B0 : Heap} (h : Apart A B) (hl : Heap.le B0 B) : Apart A B0 := fun n => by
  rcases h n with g | g
  · exact .inl g
  · refine .inr ?_
    cases hb : B0 n with
    | none => rfl
    | some k => rw [hl n k hb] at g; cases g
theorem collected_o (l : List Int) (hl : l.length ≤ 1000000) (gf : FuncId) (caps : List AV) (A B : Heap) (S Sp : Heap → Prop) (hap : Apart A B) (hit : AIter Try.prog gf caps (l.map i1) A S Sp) :
    ACall Try.prog 105 [.f (.func gf) [] caps] (join A B) fun r H' => ∃ A' B', S A' ∧ H' = join A' B' ∧ Apart A' B' ∧ OwnL B' r 2 1 (l.map i1) B := by
  refine ACall_of' Try.func105 rfl (Ent_of Try.func105 (by kernel_rfl) rfl) (by simp [Try.ntmps105]) ?_; simp only [Try.ntmps105, Try.results105]
  repeat' (first
    | refine AW_seq_kn fun K hK => ?_
    | refine AW_block ?_
    | ((first
      | refine AW_region E0 ?_ | refine AW_ret ?_ | refine AW_exit ?_ | refine AW_skip ?_ | unfold retQ); try simp only [push_cast, seval, *])
    | (apply AW_cond; (case hc => (simp only [push_cast, seval]; rfl)); all_goals (intro hc; first | (exfalso; simp only [push_cast, seval, *] at hc; done) | (exact absurd hc (by decide)) | ((try first | rw [Bool.not_true] at hc | rw [Bool.not_false] at hc); first | (with_reducible replace hc := tTT hc); clear hc | (with_reducible replace hc := tFF hc); clear hc | (have hp := hc; try simp only [decide_eq_true_eq, decide_eq_false_iff_not, bA, bB, bC, bD, bE, bF, bG, bH] at hp))))
    | (refine Kn.go hK ?_; clear hK K)
    | refine Kn.go (by assumption) ?_
    | (intro n hn; (try simp only [upd_none2, join_none_iff, ite_none, ne_eq] at hn); (try simp only [push_cast, seval, *]))
    | (intro hc)
    | fail)
  have hAn : A n = none := hn.1
  have hBn : B n = none := hn.2
  have hBB : Heap.le B (upd B n (.r 29 1 1 [[.c (.slice none 0 0)]])) := le_upd_new hBn
  refine AW_range (B := upd B n (.r 29 1 1 [[.c (.slice none 0 0)]])) rfl hit ?_ ?_ (by intro x hx; obtain ⟨y, _, rfl⟩ := List.mem_map.1 hx; rfl) (by simp) (fun k B1 => ∃ x, OwnL B1 x 2 1 ((l.take k).map i1) (upd B n (.r 29 1 1 [[x]]))) (fun _ _ => False) ⟨_, .inl ⟨⟨_, rfl⟩, rfl, rfl⟩⟩ ?_ ?_ ?_
  · intro m
    by_cases e : m = n
    · subst e; exact .inl hAn
    · rw [upd_ne e]; exact hap m
  · intro q b hq
    unfold join at hq ⊢
    by_cases e : q = n
    · subst e; rw [hAn, upd_same] at hq; rw [upd_same]; exact hq
    · rw [upd_ne e] at hq ⊢; exact hq
  · rintro k hk B1 ⟨x, hown⟩
    have hk' : k < l.length := by simpa using hk
    have hkt := hown.get (upd_same _ _ _)
    have hcs := hown.cs
    have hx := List.getElem?_eq_getElem hk'
    simp only [List.getElem_map]
    generalize l[k] = y at hx
    have hry : i1 y = [.c (.int .i64 y)] := rfl
    repeat' (first
    | refine AW_seq_kn fun K hK => ?_
    | refine AW_block ?_
    | ((first
      | refine AW_region E0 ?_ | refine AW_ret ?_ | refine AW_exit ?_ | refine AW_skip ?_ | unfold retQ); try simp only [push_cast, seval, *])
    | (apply AW_cond; (case hc => (simp only [push_cast, seval]; rfl)); all_goals (intro hc; first | (exfalso; simp only [push_cast, seval, *] at hc; done) | (exact absurd hc (by decide)) | ((try first | rw [Bool.not_true] at hc | rw [Bool.not_false] at hc); first | (with_reducible replace hc := tTT hc); clear hc | (with_reducible replace hc := tFF hc); clear hc | (have hp := hc; try simp only [decide_eq_true_eq, decide_eq_false_iff_not, bA, bB, bC, bD, bE, bF, bG, bH] at hp))))
    | (refine Kn.go hK ?_; clear hK K)
    | refine Kn.go (by assumption) ?_
    | (intro n hn; (try simp only [upd_none2, join_none_iff, ite_none, ne_eq] at hn); (try simp only [push_cast, seval, *]))
    | (intro hc)
    | fail)
    refine does_app1 rfl rfl rfl rfl hown hn tE29 tS2 tB2 tZ2 rfl (by decide) ?_ ?_ ?_
    · simp only [List.length_map, List.length_take, maxLen]; omega
    · simp only [List.length_map, List.length_take]; omega
    intro x' H' hown'
    have hkt' := hown'.get (upd_same _ _ _)
    have hcs' := hown'.cs
    (try simp only [push_cast, seval, *])
    refine ⟨x', ?_⟩
    have h := hown'.turn (upd_same _ _ _) (.r 29 1 1 [[x']])
    rw [upd_upd] at h
    rw [take_snoc_map i1 hx]
    exact h
  · rintro A' B' hap' hS ⟨x, hown⟩
    rw [List.length_map, List.take_length] at hown
    have hj := ownL_join hap' hown
    have hle : Heap.le B B' := fun q b hq => hown.get (by rw [upd_ne (by rintro rfl; rw [hBn] at hq; cases hq)]; exact hq)
    have hkt := hj.get (m := n) (k := .r 29 1 1 [[x]]) (by
      have hA' : A' n = none := by
        rcases hap' n with g | g
        · exact g
        · rw [hown.get (upd_same _ _ _)] at g; cases g
      rw [join_right hA', upd_same])
    obtain ⟨B2, hB2, hown2⟩ := hown.cut (le_upd_new hBn)
    replace hown2 := Lib.hid hown2
    repeat' (first
    | refine AW_seq_kn fun K hK => ?_
    | refine AW_block ?_
    | ((first
      | refine AW_region E0 ?_ | refine AW_ret ?_ | refine AW_exit ?_ | refine AW_skip ?_ | unfold retQ); try simp only [push_cast, seval, *])
    | (apply AW_cond; (case hc => (simp only [push_cast, seval]; rfl)); all_goals (intro hc; first | (exfalso; simp only [push_cast, seval, *] at hc; done) | (exact absurd hc (by decide)) | ((try first | rw [Bool.not_true] at hc | rw [Bool.not_false] at hc); first | (with_reducible replace hc := tTT hc); clear hc | (with_reducible replace hc := tFF hc); clear hc | (have hp := hc; try simp only [decide_eq_true_eq, decide_eq_false_iff_not, bA, bB, bC, bD, bE, bF, bG, bH] at hp))))
    | (refine Kn.go hK ?_; clear hK K)
    | refine Kn.go (by assumption) ?_
    | (intro n hn; (try simp only [upd_none2, join_none_iff, ite_none, ne_eq] at hn); (try simp only [push_cast, seval, *]))
    | (intro hc)
    | fail)
    exact ⟨_, _, Weak.less (Heap.le_join (Heap.le_refl _) hB2 hap'), A', B2, hS, rfl, apart_le hap' hB2, unhid hown2⟩
  · exact fun _ _ _ _ _ h => h.elim
theorem le_split {H : Heap} {mc me : Nat} {x y : Blk} (hx : H mc = some x) (hy : H me = some y) : Heap.le (join (upd (upd (fun _ => none) mc x) me y) (del (del H mc) me)) H := fun q b hq => by
  unfold join at hq
  by_cases e1 : q = me
  · subst e1; rw [upd_same] at hq; rw [hy]; exact hq
  by_cases e2 : q = mc
  · subst e2; rw [upd_ne e1, upd_same] at hq; rw [hx]; exact hq
  · rw [upd_ne e1, upd_ne e2, del_ne e1, del_ne e2] at hq; exact hq
theorem apart_split {H : Heap} {mc me : Nat} {x y : Blk} : Apart (upd (upd (fun _ => none) mc x) me y) (del (del H mc) me) := fun q => by
  by_cases e1 : q = me
  · subst e1; exact .inr (del_same _ _)
  by_cases e2 : q = mc
  · subst e2; exact .inr (by rw [del_ne e1]; exact del_same _ _)
  · exact .inl (by rw [upd_ne e1, upd_ne e2])
theorem run_o (o : OpD) (c : CellD) (vs : List Int) (hlO : o.ins.length ≤ maxLen) (hA : o.A ≤ 9223372036854775807) (hl : vs.length ≤ 1000) (H : Heap) :
    ACall Try.prog 62 [.g (OpD.av o), .g (CellD.av c), .l 1 (vs.map i1)] H fun r H' => ∃ x, r = .t [.g (CellD.av (runS o c vs).1), x, .c (.int .i64 (runS o c vs).2.2)] ∧ OwnL H' x 2 1 ((runS o c vs).2.1.map i1) H := by
  have hri := right_p o c hlO
  have htag := alone_tag o
  have hfi := flow_i o c vs
  have hfp := flow_p o vs
  have hfl := flowS_len o vs c
  have hR : rightS o c = if aloneS o = false then 180 else if fitsS o c = false then 181 else 0 := rfl
  have hrun : runS o c vs = if aloneS o = false then (zeroC, [], 180) else if fitsS o c = false then (zeroC, [], 181) else if (flowS o c vs).2.2 ≠ 0 then (zeroC, [], (flowS o c vs).2.2) else ((flowS o c vs).1, (flowS o c vs).2.1, 0) := rfl
  generalize rightS o c = r at *
  rw [hrun]
  clear hrun
  generalize flowS o c vs = T at *
  generalize fitsS o c = f at *
  generalize hal : aloneS o = a at *
  obtain ⟨t, w, l, A, B⟩ := o
  obtain ⟨cn, cs⟩ := c
  obtain ⟨⟨n', s'⟩, out, e⟩ := T
  simp only at hA htag hfl hfi
  cases a
  · simp at hR; subst hR
    simp only [if_true, zeroC, OpD.av, CellD.av] at hri ⊢
    clear hfi hfp htag hal
    refine ACall_of' Try.func62 rfl (Ent_of Try.func62 (by kernel_rfl) rfl) (by simp [Try.ntmps62]) ?_; simp only [Try.ntmps62, Try.results62]
    repeat' (first
    | refine AW_seq_kn fun K hK => ?_
    | refine AW_block ?_
    | (refine does_call rfl rfl ?_; simp only [push_cast, seval, *]; refine ACall.monoP (hri _) ?_; (try simp only [push_cast, seval, *]))
    | (refine does_call rfl rfl ?_; simp only [push_cast, seval, *]; refine ACall.monoP (right_p ⟨_, _, _, _, _⟩ ⟨_, _⟩ (by assumption) _) ?_; (try simp only [push_cast, seval, *]))
    | ((first
      | refine AW_region_draw (id := 3) E0 (fun f => [].contains f) [(0, false, []), (1, true, []), (2, false, [1]), (3, false, []), (4, false, [])] [[], [], [0], [0, 2], [0, 1, 2, 3]] mixed (by kernel_rfl) ?_
      | refine AW_region_draw (id := 6) E0 (fun f => [].contains f) [(0, false, []), (1, true, []), (2, false, [1]), (3, false, []), (4, false, [])] [[], [], [0], [0, 2], [0, 1, 2, 3]] mixed (by kernel_rfl) ?_
      | refine AW_region E0 ?_ | refine AW_ret ?_ | refine AW_exit ?_ | refine AW_skip ?_ | unfold retQ); try simp only [push_cast, seval, *])
    | (apply AW_cond; (case hc => (simp only [push_cast, seval]; rfl)); all_goals (intro hc; first | (exfalso; simp only [push_cast, seval, *] at hc; done) | (exact absurd hc (by decide)) | ((try first | rw [Bool.not_true] at hc | rw [Bool.not_false] at hc); first | (with_reducible replace hc := tTT hc); clear hc | (with_reducible replace hc := tFF hc); clear hc | (have hp := hc; try simp only [decide_eq_true_eq, decide_eq_false_iff_not, bA, bB, bC, bD, bE, bF, bG, bH] at hp))))
    | (refine Kn.go hK ?_; clear hK K)
    | refine Kn.go (by assumption) ?_
    | (intro n hn; (try simp only [upd_none2, join_none_iff, ite_none, ne_eq] at hn); (try simp only [push_cast, seval, *]))
    | (intro hc)
    | fail)
    exact ⟨_, _, Weak.less (by (simp only [push_cast, seval, *])), _, rfl, .inl ⟨⟨_, rfl⟩, rfl, rfl⟩⟩
  cases f
  · simp at hR; subst hR
    simp only [Bool.true_eq_false, if_false, if_true, zeroC, OpD.av, CellD.av] at hri ⊢
    clear hfi hfp htag hal
    refine ACall_of' Try.func62 rfl (Ent_of Try.func62 (by kernel_rfl) rfl) (by simp [Try.ntmps62]) ?_; simp only [Try.ntmps62, Try.results62]
    repeat' (first
    | refine AW_seq_kn fun K hK => ?_
    | refine AW_block ?_
    | (refine does_call rfl rfl ?_; simp only [push_cast, seval, *]; refine ACall.monoP (hri _) ?_; (try simp only [push_cast, seval, *]))
    | (refine does_call rfl rfl ?_; simp only [push_cast, seval, *]; refine ACall.monoP (right_p ⟨_, _, _, _, _⟩ ⟨_, _⟩ (by assumption) _) ?_; (try simp only [push_cast, seval, *]))
    | ((first
      | refine AW_region_draw (id := 3) E0 (fun f => [].contains f) [(0, false, []), (1, true, []), (2, false, [1]), (3, false, []), (4, false, [])] [[], [], [0], [0, 2], [0, 1, 2, 3]] mixed (by kernel_rfl) ?_
      | refine AW_region_draw (id := 6) E0 (fun f => [].contains f) [(0, false, []), (1, true, []), (2, false, [1]), (3, false, []), (4, false, [])] [[], [], [0], [0, 2], [0, 1, 2, 3]] mixed (by kernel_rfl) ?_
      | refine AW_region E0 ?_ | refine AW_ret ?_ | refine AW_exit ?_ | refine AW_skip ?_ | unfold retQ); try simp only [push_cast, seval, *])
    | (apply AW_cond; (case hc => (simp only [push_cast, seval]; rfl)); all_goals (intro hc; first | (exfalso; simp only [push_cast, seval, *] at hc; done) | (exact absurd hc (by decide)) | ((try first | rw [Bool.not_true] at hc | rw [Bool.not_false] at hc); first | (with_reducible replace hc := tTT hc); clear hc | (with_reducible replace hc := tFF hc); clear hc | (have hp := hc; try simp only [decide_eq_true_eq, decide_eq_false_iff_not, bA, bB, bC, bD, bE, bF, bG, bH] at hp))))
    | (refine Kn.go hK ?_; clear hK K)
    | refine Kn.go (by assumption) ?_
    | (intro n hn; (try simp only [upd_none2, join_none_iff, ite_none, ne_eq] at hn); (try simp only [push_cast, seval, *]))
    | (intro hc)
    | fail)
    exact ⟨_, _, Weak.less (by (simp only [push_cast, seval, *])), _, rfl, .inl ⟨⟨_, rfl⟩, rfl, rfl⟩⟩
  simp at hR; subst hR
  obtain ⟨t1, t7⟩ := htag rfl
  simp only [Bool.true_eq_false, if_false]
  obtain ⟨⟨⟨rn, rs⟩, ro, re⟩, hRR⟩ : ∃ R : CellD × List Int × Int, R = (if e ≠ 0 then (zeroC, [], e) else ((⟨n', s'⟩ : CellD), out, 0)) := ⟨_, rfl⟩
  rw [← hRR]
  replace hRR := Lib.hid hRR
  replace hfi := Lib.hid hfi
  replace hfp := Lib.hid hfp
  clear htag hal
  simp only [OpD.av, CellD.av] at hri ⊢
  refine ACall_of' Try.func62 rfl (Ent_of Try.func62 (by kernel_rfl) rfl) (by simp [Try.ntmps62]) ?_; simp only [Try.ntmps62, Try.results62]
  repeat' (first
    | refine AW_seq_kn fun K hK => ?_
    | refine AW_block ?_
    | (refine does_call rfl rfl ?_; simp only [push_cast, seval, *]; refine ACall.monoP (hri _) ?_; (try simp only [push_cast, seval, *]))
    | (refine does_call rfl rfl ?_; simp only [push_cast, seval, *]; refine ACall.monoP (right_p ⟨_, _, _, _, _⟩ ⟨_, _⟩ (by assumption) _) ?_; (try simp only [push_cast, seval, *]))
    | ((first
      | refine AW_region_draw (id := 3) E0 (fun f => [].contains f) [(0, false, []), (1, true, []), (2, false, [1]), (3, false, []), (4, false, [])] [[], [], [0], [0, 2], [0, 1, 2, 3]] mixed (by kernel_rfl) ?_
      | refine AW_region_draw (id := 6) E0 (fun f => [].contains f) [(0, false, []), (1, true, []), (2, false, [1]), (3, false, []), (4, false, [])] [[], [], [0], [0, 2], [0, 1, 2, 3]] mixed (by kernel_rfl) ?_
      | refine AW_region E0 ?_ | refine AW_ret ?_ | refine AW_exit ?_ | refine AW_skip ?_ | unfold retQ); try simp only [push_cast, seval, *])
    | (apply AW_cond; (case hc => (simp only [push_cast, seval]; rfl)); all_goals (intro hc; first | (exfalso; simp only [push_cast, seval, *] at hc; done) | (exact absurd hc (by decide)) | ((try first | rw [Bool.not_true] at hc | rw [Bool.not_false] at hc); first | (with_reducible replace hc := tTT hc); clear hc | (with_reducible replace hc := tFF hc); clear hc | (have hp := hc; try simp only [decide_eq_true_eq, decide_eq_false_iff_not, bA, bB, bC, bD, bE, bF, bG, bH] at hp))))
    | (refine Kn.go hK ?_; clear hK K)
    | refine Kn.go (by assumption) ?_
    | (intro n hn; (try simp only [upd_none2, join_none_iff, ite_none, ne_eq] at hn); (try simp only [push_cast, seval, *]))
    | (intro hc)
    | fail)
  rename_i n1 h1 mc hc0 m6 h60
  generalize n = me at *
  obtain ⟨Hs, hHs⟩ : ∃ Hs : Heap, Hs = upd (upd (upd (upd H n1 (.r 24 5 1 [[.c (.int .i64 t), .c (.int .i64 w), .l 1 (l.map i1), .c (.int .i64 A), .c (.int .i64 B)]])) mc (.r 26 2 1 [[.c (.int .i64 cn), .c (.int .i64 cs)]])) m6 (.r 26 2 1 [[.c (.int .i64 0), .c (.int .i64 0)]])) me (.r 33 1 1 [[.c (.int .i64 0)]]) := ⟨_, rfl⟩
  have nce : ¬ mc = me := hn.2.1.2
  have n6e : ¬ m6 = me := hn.1.2
  have ne6 : ¬ me = m6 := hn.1.1
  have nec : ¬ me = mc := hn.2.1.1
  have nc6 : ¬ mc = m6 := h60.1.2
  have n6c : ¬ m6 = mc := h60.1.1
  have gc : Hs mc = some (bcel ⟨cn, cs⟩) := by rw [hHs]; simp only [push_cast, seval, *]
  have ge : Hs me = some (berr 0) := by rw [hHs]; simp only [push_cast, seval, *]
  have g6 : Hs m6 = some (.r 26 2 1 [[.c (.int .i64 0), .c (.int .i64 0)]]) := by rw [hHs]; simp only [push_cast, seval, *]
  have hHB : Heap.le H (del (del Hs mc) me) := fun q b hq => by
    have hne := ne_old hq
    have c1 : ¬ q = me := by rintro rfl; have := hn.2.2.2; rw [hq] at this; cases this
    have c2 : ¬ q = mc := by rintro rfl; have := hc0.2; rw [hq] at this; cases this
    rw [del_ne c1, del_ne c2, hHs]; simp only [push_cast, seval, *]
  have hm6 : H m6 = none := h60.2.2
  rw [← hHs]
  clear hHs h1 hc0 h60 hn hri
  refine does_call rfl rfl ?_
  simp only [push_cast, seval, *]
  refine ACall.mono (unhid hfp mc me Hs _ _ gc ge) ?_
  rintro _ _ ⟨rfl, e2⟩
  have e3 := e2.symm; clear e2; subst e3
  (try simp only [push_cast, seval, *])
  repeat' (first
    | refine AW_seq_kn fun K hK => ?_
    | refine AW_block ?_
    | (refine does_call rfl rfl ?_; simp only [push_cast, seval, *]; refine ACall.monoP (right_p ⟨_, _, _, _, _⟩ ⟨_, _⟩ (by assumption) _) ?_; (try simp only [push_cast, seval, *]))
    | ((first
      | refine AW_region_draw (id := 3) E0 (fun f => [].contains f) [(0, false, []), (1, true, []), (2, false, [1]), (3, false, []), (4, false, [])] [[], [], [0], [0, 2], [0, 1, 2, 3]] mixed (by kernel_rfl) ?_
      | refine AW_region_draw (id := 6) E0 (fun f => [].contains f) [(0, false, []), (1, true, []), (2, false, [1]), (3, false, []), (4, false, [])] [[], [], [0], [0, 2], [0, 1, 2, 3]] mixed (by kernel_rfl) ?_
      | refine AW_region E0 ?_ | refine AW_ret ?_ | refine AW_exit ?_ | refine AW_skip ?_ | unfold retQ); try simp only [push_cast, seval, *])
    | (apply AW_cond; (case hc => (simp only [push_cast, seval]; rfl)); all_goals (intro hc; first | (exfalso; simp only [push_cast, seval, *] at hc; done) | (exact absurd hc (by decide)) | ((try first | rw [Bool.not_true] at hc | rw [Bool.not_false] at hc); first | (with_reducible replace hc := tTT hc); clear hc | (with_reducible replace hc := tFF hc); clear hc | (have hp := hc; try simp only [decide_eq_true_eq, decide_eq_false_iff_not, bA, bB, bC, bD, bE, bF, bG, bH] at hp))))
    | (refine Kn.go hK ?_; clear hK K)
    | refine Kn.go (by assumption) ?_
    | (intro n hn; (try simp only [upd_none2, join_none_iff, ite_none, ne_eq] at hn); (try simp only [push_cast, seval, *]))
    | (intro hc)
    | fail)
  refine does_call rfl rfl ?_
  simp only [push_cast, seval, *]
  refine ACall.mono (ACall.pre (H2 := join (upd (upd (fun _ => none) mc (bcel ⟨cn, cs⟩)) me (berr 0)) (del (del Hs mc) me)) (le_split gc ge) (collected_o out (by omega) 125 _ _ _ _ _ apart_split (unhid hfi mc me nce t1 t7 hA hl))) ?_
  rintro r H' ⟨A', B', hS, rfl, hap', hown⟩
  have hj := ownL_join hap' hown
  have k6 : (del (del Hs mc) me) m6 = some (.r 26 2 1 [[.c (.int .i64 0), .c (.int .i64 0)]]) := by rw [del_ne n6e, del_ne n6c]; exact g6
  have l6 := hown.get k6
  have hA6 : A' m6 = none := by
    rcases hap' m6 with g | g
    · exact g
    · rw [l6] at g; cases g
  have j6 : join A' (del (del Hs mc) me) m6 = some (.r 26 2 1 [[.c (.int .i64 0), .c (.int .i64 0)]]) := by rw [join_right hA6]; exact k6
  have jc : join A' B' mc = some (bcel ⟨n', s'⟩) := by unfold join; rw [hS, upd_ne nce, upd_same]; rfl
  have je : join A' B' me = some (berr e) := by unfold join; rw [hS, upd_same]; rfl
  have jH : Heap.le H (join A' (del (del Hs mc) me)) := fun q b hq => by
    have h1 := hHB q b hq
    rcases hap' q with g | g
    · rw [join_right g]; exact h1
    · rw [hown.get h1] at g; cases g
  have hGH : Heap.le H (join A' B') := fun q b hq => hj.get (jH q b hq)
  have j6' := hj.get j6
  obtain ⟨G, hG⟩ : ∃ G, G = join A' B' := ⟨_, rfl⟩
  rw [← hG] at hj jc je j6' hGH ⊢
  clear hG hS hap' hown hHB gc ge g6 k6 l6 hA6 hfi hfp hfl
  have hcs := hj.cs
  by_cases he : e = 0
  · subst he
    have ht := hj.turn j6 (.r 26 2 1 [[.c (.int .i64 n'), .c (.int .i64 s')]])
    have jH2 : Heap.le H (upd (join A' (del (del Hs mc) me)) m6 (.r 26 2 1 [[.c (.int .i64 n'), .c (.int .i64 s')]])) := fun q b hq => by
      have c6 : ¬ q = m6 := by rintro rfl; rw [hm6] at hq; cases hq
      rw [upd_ne c6]; exact jH q b hq
    obtain ⟨H2, l1, l2⟩ := ht.cut jH2
    have h := unhid hRR
    simp only [ne_eq, not_true_eq_false, if_false, Prod.mk.injEq, CellD.mk.injEq] at h
    obtain ⟨⟨rfl, rfl⟩, rfl, rfl⟩ := h
    clear hRR ht hj j6 jH jH2 hGH
    replace l1 := Lib.hid l1
    replace l2 := Lib.hid l2
    (try simp only [push_cast, seval, *])
    repeat' (first
    | refine AW_seq_kn fun K hK => ?_
    | refine AW_block ?_
    | (refine does_call rfl rfl ?_; simp only [push_cast, seval, *]; refine ACall.monoP (right_p ⟨_, _, _, _, _⟩ ⟨_, _⟩ (by assumption) _) ?_; (try simp only [push_cast, seval, *]))
    | ((first
      | refine AW_region_draw (id := 3) E0 (fun f => [].contains f) [(0, false, []), (1, true, []), (2, false, [1]), (3, false, []), (4, false, [])] [[], [], [0], [0, 2], [0, 1, 2, 3]] mixed (by kernel_rfl) ?_
      | refine AW_region_draw (id := 6) E0 (fun f => [].contains f) [(0, false, []), (1, true, []), (2, false, [1]), (3, false, []), (4, false, [])] [[], [], [0], [0, 2], [0, 1, 2, 3]] mixed (by kernel_rfl) ?_
      | refine AW_region E0 ?_ | refine AW_ret ?_ | refine AW_exit ?_ | refine AW_skip ?_ | unfold retQ); try simp only [push_cast, seval, *])
    | (apply AW_cond; (case hc => (simp only [push_cast, seval]; rfl)); all_goals (intro hc; first | (exfalso; simp only [push_cast, seval, *] at hc; done) | (exact absurd hc (by decide)) | ((try first | rw [Bool.not_true] at hc | rw [Bool.not_false] at hc); first | (with_reducible replace hc := tTT hc); clear hc | (with_reducible replace hc := tFF hc); clear hc | (have hp := hc; try simp only [decide_eq_true_eq, decide_eq_false_iff_not, bA, bB, bC, bD, bE, bF, bG, bH] at hp))))
    | (refine Kn.go hK ?_; clear hK K)
    | refine Kn.go (by assumption) ?_
    | (intro n hn; (try simp only [upd_none2, join_none_iff, ite_none, ne_eq] at hn); (try simp only [push_cast, seval, *]))
    | (intro hc)
    | fail)
    exact ⟨_, H2, Weak.less (unhid l1), _, rfl, unhid l2⟩
  · have heF : (e = 0) = False := by simp [he]
    have h := unhid hRR
    simp only [ne_eq, he, not_false_eq_true, if_true, zeroC, Prod.mk.injEq, CellD.mk.injEq] at h
    obtain ⟨⟨rfl, rfl⟩, rfl, rfl⟩ := h
    clear hRR hj j6 jH
    replace hGH := Lib.hid hGH
    (try simp only [push_cast, seval, *])
    repeat' (first
    | refine AW_seq_kn fun K hK => ?_
    | refine AW_block ?_
    | (refine does_call rfl rfl ?_; simp only [push_cast, seval, *]; refine ACall.monoP (right_p ⟨_, _, _, _, _⟩ ⟨_, _⟩ (by assumption) _) ?_; (try simp only [push_cast, seval, *]))
    | ((first
      | refine AW_region_draw (id := 3) E0 (fun f => [].contains f) [(0, false, []), (1, true, []), (2, false, [1]), (3, false, []), (4, false, [])] [[], [], [0], [0, 2], [0, 1, 2, 3]] mixed (by kernel_rfl) ?_
      | refine AW_region_draw (id := 6) E0 (fun f => [].contains f) [(0, false, []), (1, true, []), (2, false, [1]), (3, false, []), (4, false, [])] [[], [], [0], [0, 2], [0, 1, 2, 3]] mixed (by kernel_rfl) ?_
      | refine AW_region E0 ?_ | refine AW_ret ?_ | refine AW_exit ?_ | refine AW_skip ?_ | unfold retQ); try simp only [push_cast, seval, *])
    | (apply AW_cond; (case hc => (simp only [push_cast, seval]; rfl)); all_goals (intro hc; first | (exfalso; simp only [push_cast, seval, *] at hc; done) | (exact absurd hc (by decide)) | ((try first | rw [Bool.not_true] at hc | rw [Bool.not_false] at hc); first | (with_reducible replace hc := tTT hc); clear hc | (with_reducible replace hc := tFF hc); clear hc | (have hp := hc; try simp only [decide_eq_true_eq, decide_eq_false_iff_not, bA, bB, bC, bD, bE, bF, bG, bH] at hp))))
    | (refine Kn.go hK ?_; clear hK K)
    | refine Kn.go (by assumption) ?_
    | (intro n hn; (try simp only [upd_none2, join_none_iff, ite_none, ne_eq] at hn); (try simp only [push_cast, seval, *]))
    | (intro hc)
    | fail)
    refine ⟨_, H, Weak.less ?_, _, rfl, .inl ⟨⟨_, rfl⟩, rfl, rfl⟩⟩
    intro q b hq
    have c6 : ¬ q = m6 := by rintro rfl; rw [hm6] at hq; cases hq
    simp only [upd_get, c6, if_false]
    exact unhid hGH q b hq
theorem flat_run (c : CellD) (e : Int) : ∀ y, Flat y → Flat (.t [.g (CellD.av c), y, .c (.int .i64 e)]) := fun y hy => Flat.t (by
  intro x hx
  simp only [List.mem_cons, List.not_mem_nil, or_false] at hx
  rcases hx with rfl | rfl | rfl
  · exact Flat.g (by intro x hx; simp only [CellD.av, List.mem_cons, List.not_mem_nil, or_false] at hx; rcases hx with rfl | rfl <;> exact Flat.c _)
  · exact hy
  · exact Flat.c _)
theorem flatR_i1 (l : List Int) : FlatR (l.map i1) := FlatR.map l (fun x y hy => by simp only [i1, List.mem_cons, List.not_mem_nil, or_false] at hy; subst hy; exact Flat.c _)
theorem own_t3 {H H0 : Heap} {x a b : AV} {rows : List (List AV)} {ty : TypeId} {sz : Nat} (h : OwnL H x ty sz rows H0) : Weak (.t [a, x, b]) H (.t [a, .l sz rows, b]) H0 :=
  h.weak fun F F' hF hi _ => Imp.t (Imps.cons (Imp.refl hF _) id (Imps.cons hi (fun _ => rfl) (Imps.cons (Imp.refl hF _) id Imps.nil)))
theorem run_p (o : OpD) (c : CellD) (vs : List Int) (hlO : o.ins.length ≤ maxLen) (hA : o.A ≤ 9223372036854775807) (hl : vs.length ≤ 1000) :
    Pure Try.prog 62 [.g (OpD.av o), .g (CellD.av c), .l 1 (vs.map i1)] (.t [.g (CellD.av (runS o c vs).1), .l 1 ((runS o c vs).2.1.map i1), .c (.int .i64 (runS o c vs).2.2)]) := fun H =>
  ACall.weak ((run_o o c vs hlO hA hl H).mono fun r H' h => by
    obtain ⟨x, rfl, hx⟩ := h
    exact ⟨_, _, own_t3 hx, rfl, rfl⟩)

end Go.Proofs.Ytmkncbddjnaklaa
