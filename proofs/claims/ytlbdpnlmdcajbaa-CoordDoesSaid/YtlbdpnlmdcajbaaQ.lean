/- What something holds of is dropped. -/
import Derived.Test.YtlbdpnlmdcajbaaP
namespace Go.Proofs.Ytlbdpnlmdcajbaa
open Go.RowKit
open Nat renaming reduceEqDiff → nA, reduceLT → nB, reduceLeDiff → nC, reduceAdd → nD, reduceMul → nE, reduceSub → nF, reduceBEq → nG
open Int renaming reduceToNat → iA, reduceLT → iB, reduceLE → iC, reduceEq → iD
open Bool renaming and_eq_true → bA, or_eq_true → bB, or_eq_false_iff → bC, and_eq_false_iff → bD, not_eq_true' → bE, not_eq_false' → bF, not_true → bG, not_false → bH
set_option linter.all false
set_option maxHeartbeats 4000000
attribute [local irreducible] AW Does ACall tE tS tB tZ
set_option maxRecDepth 5000

theorem drop_fin {L : List (AV × Pd)} {np cap nb : Nat} {A1 K Hg B' : Heap} {g : AV} {rs : List (List AV)} {kb b' : Blk} (is : Pd → Bool) (hnp : A1 np = none) (o2 : Chain RP L A1 K) (hK : K nb = some kb) (hle : Heap.le (upd A1 np (.r 61 4 cap (L.map encP))) Hg) (hap : Apart Hg B') (hog : OwnL B' g 25 1 rs emp) :
    ∃ H1 H2, Heap.le H2 (upd (upd (join Hg B') np (.r 61 4 cap ((L.filter fun q => !is q.2).map encP))) nb b') ∧ OwnL H2 g 25 1 rs H1 ∧ OwnP (.s np 4 0 (L.filter fun q => !is q.2).length cap) ((L.map Prod.snd).filter fun p => !is p) H1 (upd K nb b') := by
  obtain ⟨A1s, s1, s2⟩ := Chain.sub RP_loc (fun q : AV × Pd => !is q.2) o2
  have kn := (Loc.chain RP_loc _).get s2 hK
  have h1 := le_no s1 hnp
  have hne : np ≠ nb := by rintro rfl; rw [kn] at h1; cases h1
  have t := (Loc.chain RP_loc _).turn s2 hK b'
  have hHg : ∀ q b, A1s q = some b → Hg q = some b := fun q b hq => by
    have := s1 q b hq
    exact hle q b (by rw [upd_ne (by rintro rfl; rw [hnp] at this; cases this)]; exact this)
  have hap1 : Apart (upd (upd A1s nb b') np (.r 61 4 cap ((L.filter fun q => !is q.2).map encP))) B' := fun q => by
    by_cases e1 : q = np
    · subst e1; exact .inr (hap.right (hle _ _ (upd_same _ _ _)))
    · by_cases e2 : q = nb
      · subst e2; exact .inr (hap.right (hHg _ _ kn))
      · rw [upd_ne e1, upd_ne e2]
        cases hq : A1s q with
        | none => exact .inl rfl
        | some b => exact .inr (hap.right (hHg _ _ hq))
  refine ⟨_, join (upd (upd A1s nb b') np (.r 61 4 cap ((L.filter fun q => !is q.2).map encP))) B', ?_, ?_, ⟨L.filter fun q => !is q.2, by rw [List.filter_map]; rfl, upd A1s nb b', OwnL.at (by simp) (by rw [upd_ne hne]; exact h1), t⟩⟩
  · intro q b hq
    by_cases e2 : q = nb
    · subst e2
      rw [join_left (by rw [upd_ne (Ne.symm hne), upd_same])] at hq
      rw [upd_same]; exact hq
    · rw [upd_ne e2]
      by_cases e1 : q = np
      · subst e1
        rw [join_left (upd_same _ _ _)] at hq
        rw [upd_same]; exact hq
      · rw [upd_ne e1]
        cases hA : A1s q with
        | none =>
          rw [join_right (by rw [upd_ne e1, upd_ne e2]; exact hA)] at hq
          rcases hap q with gg | gg
          · rw [join_right gg]; exact hq
          · rw [hq] at gg; cases gg
        | some b2 =>
          rw [join_left (by rw [upd_ne e1, upd_ne e2]; exact hA)] at hq
          rw [join_left (hHg _ _ hA)]; exact hq
  · have := ownL_join hap1 hog
    rwa [join_none] at this
theorem drop_o (x : AV) (l : List Pd) (A K0 : Heap) (nb : Nat) (c : Cd) (hl : l.length ≤ 100) (h : OwnP x l A K0) (hKb : K0 nb = some (bxC c x)) (is : Pd → Bool) (gf : FuncId) (caps : List AV)
    (hf : ∀ y p, p ∈ l → y.cs = some [y] → ∀ G, Heap.le K0 G → ACall Try.prog gf ([.g (encP (y, p))] ++ caps) G fun r H' => r = .c (.bool (is p)) ∧ H' = G) :
    ACall Try.prog 70 [.p nb 6 0 0, .f (.func gf) [] caps] A fun r H' => ∃ x' H1, OwnL H' r 25 1 ((l.filter is).map fun p => iu p.num) H1 ∧ OwnP x' (l.filter fun p => !is p) H1 (upd K0 nb (bxC c x')) := by
  have kb := (OwnP_loc x l).get h hKb
  have hxcs := h.cs
  have hleK := (OwnP_loc x l).le h
  have hne := ne_old kb
  have hnb := numbers_o x gf caps hxcs A
  obtain ⟨L, rfl, A1, o1, o2⟩ := h
  rw [List.length_map] at hl
  have hcss := fun q hq => (Chain.css o2 q hq).1
  have hsp : ∃ np cap, (x = .s np 4 0 L.length cap ∧ A np = some (.r 61 4 cap (L.map encP))) ∨ (∃ ad, x = .c (.slice ad 0 0) ∧ L = []) := by
    rcases o1.split with ⟨ad, rfl, e, rfl⟩ | ⟨np, cap, rfl, rfl, hnp⟩
    · exact ⟨0, 0, .inr ⟨ad, rfl, List.map_eq_nil_iff.1 e⟩⟩
    · exact ⟨np, cap, .inl ⟨by rw [List.length_map], upd_same _ _ _⟩⟩
  obtain ⟨np, cap, hsp⟩ := hsp
  have hcol : ∀ n2 n3, A n2 = none → A n3 = none → ¬ n2 = n3 → ACall Try.prog 85 [.f (.func 89) [] [.p n2 1 0 0, .p n3 1 0 0]] (upd (upd A n2 (.r 28 1 1 [[x]])) n3 (.r 110 1 1 [[.f (.func gf) [] caps]])) fun r H' => ∃ B', H' = join (upd (upd A n2 (.r 28 1 1 [[x]])) n3 (.r 110 1 1 [[.f (.func gf) [] caps]])) B' ∧ Apart (upd (upd A n2 (.r 28 1 1 [[x]])) n3 (.r 110 1 1 [[.f (.func gf) [] caps]])) B' ∧ OwnL B' r 25 1 (((L.map Prod.snd).filter is).map fun p => iu p.num) emp := fun n2 n3 h2 h3 h23 => by
    have hle2 : Heap.le A (upd (upd A n2 (.r 28 1 1 [[x]])) n3 (.r 110 1 1 [[.f (.func gf) [] caps]])) := le_skip (le_skip (Heap.le_refl _) h2) h3
    have hit := numbers_i L (by omega) x np cap n2 n3 (upd (upd A n2 (.r 28 1 1 [[x]])) n3 (.r 110 1 1 [[.f (.func gf) [] caps]])) is gf caps (by rw [upd_ne h23, upd_same]) (upd_same _ _ _) (hsp.imp (fun g => ⟨g.1, hle2 _ _ g.2⟩) id) hcss (fun q hq G hG => hf q.1 q.2 (List.mem_map_of_mem hq) (hcss q hq) G (Heap.le_trans hleK (Heap.le_trans hle2 hG)))
    have e1 : (((L.map Prod.snd).filter is).map fun p => iu p.num) = (((L.map Prod.snd).filter is).map Pd.num).map iu := by rw [List.map_map]; rfl
    rw [e1] at hit ⊢
    have hll : (((L.map Prod.snd).filter is).map Pd.num).length ≤ 1000000 := by
      rw [List.length_map]
      have := List.length_filter_le is (L.map Prod.snd)
      rw [List.length_map] at this; omega
    have := collected_o (((L.map Prod.snd).filter is).map Pd.num) hll _ _ _ emp _ _ (apart_emp _) hit
    rw [join_none] at this
    refine this.mono ?_
    rintro r H' ⟨A', B', rfl, rfl, h1, h2⟩
    exact ⟨B', rfl, h1, h2⟩
  simp only [bxC, Cd.cl] at kb
  replace hcol := Lib.hid hcol
  replace hnb := Lib.hid hnb
  replace hf := Lib.hid hf
  replace hsp := Lib.hid hsp
  replace o1 := Lib.hid o1
  replace o2 := Lib.hid o2
  refine ACall_of' Try.func70 rfl (Ent_of Try.func70 (by kernel_rfl) rfl) (by simp [Try.ntmps70]) ?_; simp only [Try.ntmps70, Try.results70]
  repeat' (first
    | refine AW_seq_kn fun K hK => ?_
    | refine AW_block ?_
    | ((first
      | refine AW_region E0 ?_ | refine AW_ret ?_ | refine AW_exit ?_ | refine AW_skip ?_ | unfold retQ); try simp only [push_cast, seval, *])
    | (apply AW_cond; (case hc => (simp only [push_cast, seval]; rfl)); all_goals (intro hc; first | (exfalso; simp only [push_cast, seval, *] at hc; done) | (exact absurd hc (by decide)) | ((try first | rw [Bool.not_true] at hc | rw [Bool.not_false] at hc); first | (with_reducible replace hc := tTT hc); clear hc | (with_reducible replace hc := tFF hc); clear hc | (have hp := hc; try simp only [decide_eq_true_eq, decide_eq_false_iff_not, bA, bB, bC, bD, bE, bF, bG, bH] at hp))))
    | (refine Kn.go hK ?_; clear hK K)
    | refine Kn.go (by assumption) ?_
    | (intro n hn; (try simp only [upd_none2, join_none_iff, ite_none, ne_eq] at hn); (try simp only [push_cast, seval, *]))
    | (intro hc)
    | fail)
  refine does_call rfl rfl ?_
  simp only [push_cast, seval, *]
  refine ACall.mono (unhid hnb) ?_
  rintro _ _ ⟨n2, n3, rfl, h2, h3, h23, rfl⟩
  (try simp only [push_cast, seval, *])
  repeat' (first
    | refine AW_seq_kn fun K hK => ?_
    | refine AW_block ?_
    | ((first
      | refine AW_region E0 ?_ | refine AW_ret ?_ | refine AW_exit ?_ | refine AW_skip ?_ | unfold retQ); try simp only [push_cast, seval, *])
    | (apply AW_cond; (case hc => (simp only [push_cast, seval]; rfl)); all_goals (intro hc; first | (exfalso; simp only [push_cast, seval, *] at hc; done) | (exact absurd hc (by decide)) | ((try first | rw [Bool.not_true] at hc | rw [Bool.not_false] at hc); first | (with_reducible replace hc := tTT hc); clear hc | (with_reducible replace hc := tFF hc); clear hc | (have hp := hc; try simp only [decide_eq_true_eq, decide_eq_false_iff_not, bA, bB, bC, bD, bE, bF, bG, bH] at hp))))
    | (refine Kn.go hK ?_; clear hK K)
    | refine Kn.go (by assumption) ?_
    | (intro n hn; (try simp only [upd_none2, join_none_iff, ite_none, ne_eq] at hn); (try simp only [push_cast, seval, *]))
    | (intro hc)
    | fail)
  refine does_call rfl rfl ?_
  simp only [push_cast, seval, *]
  refine ACall.mono (unhid hcol n2 n3 h2 h3 h23) ?_
  rintro g _ ⟨B', rfl, hap, hog⟩
  have hle2 : Heap.le A (upd (upd A n2 (.r 28 1 1 [[x]])) n3 (.r 110 1 1 [[.f (.func gf) [] caps]])) := le_skip (le_skip (Heap.le_refl _) h2) h3
  generalize upd (upd A n2 (.r 28 1 1 [[x]])) n3 (.r 110 1 1 [[.f (.func gf) [] caps]]) = Hg at *
  have hgcs := hog.cs
  have kg := join_left (B := B') (hle2 _ _ kb)
  replace hle2 := Lib.hid hle2
  replace hap := Lib.hid hap
  replace hog := Lib.hid hog
  clear hcol hnb
  rcases unhid hsp with ⟨rfl, hnp⟩ | ⟨ad, rfl, rfl⟩
  · rcases (unhid o1).split with ⟨ad, e, -, -⟩ | ⟨np2, cap2, e, rfl, hnp2⟩
    · cases e
    obtain ⟨rfl, e1, rfl⟩ : np = np2 ∧ L.length = (L.map encP).length ∧ cap = cap2 := by injection e; exact ⟨‹_›, ‹_›, ‹_›⟩
    have hKnp : K0 np = none := (Loc.chain RP_loc L).old (unhid o2) hnp2
    have hdel := delO_s encP encP_len L (by omega) (fun q => !is q.2) gf caps (join Hg B') (nb := np) (cap := cap) (join_left (unhid hle2 _ _ hnp)) (fun q hq G hG => by
      have h := unhid hf q.1 q.2 (List.mem_map_of_mem hq) (hcss q hq) G (fun m b hm => hG m b (by rintro rfl; rw [hKnp] at hm; cases hm) (join_left (unhid hle2 _ _ (hleK _ _ hm))))
      simpa using h)
    obtain ⟨H1, H2, f1, f2, f3⟩ := drop_fin (b' := bxC c (.s np 4 0 (L.filter fun q => !is q.2).length cap)) is hnp2 (unhid o2) hKb (unhid hle2) (unhid hap) (unhid hog)
    have hnn : ¬ nb = np := by rintro rfl; rw [hKnp] at hKb; cases hKb
    clear hcss hleK hf hsp o1 o2 hap hog hle2 hKb hnp2 hnp hl e e1 hKnp hne
    replace f1 := Lib.hid f1
    replace f2 := Lib.hid f2
    replace f3 := Lib.hid f3
    (try simp only [push_cast, seval, *])
    repeat' (first
    | refine AW_seq_kn fun K hK => ?_
    | refine AW_block ?_
    | (refine does_call rfl rfl ?_; simp only [push_cast, seval, *]; refine ACall.mono hdel ?_; (rintro _ _ ⟨rfl, e2⟩; have e3 := e2.symm; clear e2; subst e3); (try simp only [push_cast, seval, *]))
    | ((first
      | refine AW_region E0 ?_ | refine AW_ret ?_ | refine AW_exit ?_ | refine AW_skip ?_ | unfold retQ); try simp only [push_cast, seval, *])
    | (apply AW_cond; (case hc => (simp only [push_cast, seval]; rfl)); all_goals (intro hc; first | (exfalso; simp only [push_cast, seval, *] at hc; done) | (exact absurd hc (by decide)) | ((try first | rw [Bool.not_true] at hc | rw [Bool.not_false] at hc); first | (with_reducible replace hc := tTT hc); clear hc | (with_reducible replace hc := tFF hc); clear hc | (have hp := hc; try simp only [decide_eq_true_eq, decide_eq_false_iff_not, bA, bB, bC, bD, bE, bF, bG, bH] at hp))))
    | (refine Kn.go hK ?_; clear hK K)
    | refine Kn.go (by assumption) ?_
    | (intro n hn; (try simp only [upd_none2, join_none_iff, ite_none, ne_eq] at hn); (try simp only [push_cast, seval, *]))
    | (intro hc)
    | fail)
    exact ⟨_, H2, Weak.less (by have := unhid f1; rw [upd_join, upd_join] at this; exact this), _, H1, unhid f2, unhid f3⟩
  · have hdel := delO_nil gf caps ad (join Hg B')
    have e1 : A1 = A := by
      rcases (unhid o1).split with ⟨ad, -, -, e⟩ | ⟨np2, cap2, e, -, -⟩
      · exact e.symm
      · cases e
    have e2 : K0 = A := (show K0 = A1 from unhid o2).trans e1
    subst e2
    have kgg := unhid hle2 _ _ hKb
    have hapk : ∀ b, Apart (upd Hg nb b) B' := fun b => (unhid hap).upd b ((unhid hap).right kgg)
    have hf2 : ∀ b, OwnL (join (upd K0 nb b) B') g 25 1 [] (upd K0 nb b) := fun b => by
      have := ownL_join (A := upd K0 nb b) (fun q => (hapk b q).imp (fun gg => le_no (hle_upd2 (unhid hle2) nb b) gg) id) (unhid hog)
      rwa [join_none] at this
    have hf1 : ∀ b, Heap.le (join (upd K0 nb b) B') (join (upd Hg nb b) B') := fun b => Heap.le_join (hle_upd2 (unhid hle2) _ _) (Heap.le_refl _) (hapk b)
    clear hcss hf hsp hap hog hle2 hKb o1 o2 hleK hapk hl hne kgg e1
    replace hf1 := Lib.hid hf1
    replace hf2 := Lib.hid hf2
    (try simp only [push_cast, seval, *])
    repeat' (first
    | refine AW_seq_kn fun K hK => ?_
    | refine AW_block ?_
    | (refine does_call rfl rfl ?_; simp only [push_cast, seval, *]; refine ACall.mono hdel ?_; (rintro _ _ ⟨rfl, e2⟩; have e3 := e2.symm; clear e2; subst e3); (try simp only [push_cast, seval, *]))
    | ((first
      | refine AW_region E0 ?_ | refine AW_ret ?_ | refine AW_exit ?_ | refine AW_skip ?_ | unfold retQ); try simp only [push_cast, seval, *])
    | (apply AW_cond; (case hc => (simp only [push_cast, seval]; rfl)); all_goals (intro hc; first | (exfalso; simp only [push_cast, seval, *] at hc; done) | (exact absurd hc (by decide)) | ((try first | rw [Bool.not_true] at hc | rw [Bool.not_false] at hc); first | (with_reducible replace hc := tTT hc); clear hc | (with_reducible replace hc := tFF hc); clear hc | (have hp := hc; try simp only [decide_eq_true_eq, decide_eq_false_iff_not, bA, bB, bC, bD, bE, bF, bG, bH] at hp))))
    | (refine Kn.go hK ?_; clear hK K)
    | refine Kn.go (by assumption) ?_
    | (intro n hn; (try simp only [upd_none2, join_none_iff, ite_none, ne_eq] at hn); (try simp only [push_cast, seval, *]))
    | (intro hc)
    | fail)
    exact ⟨_, _, Weak.less (unhid hf1 _), .c (.slice ad 0 0), _, unhid hf2 _, OwnSl.nil⟩
end Go.Proofs.Ytlbdpnlmdcajbaa
