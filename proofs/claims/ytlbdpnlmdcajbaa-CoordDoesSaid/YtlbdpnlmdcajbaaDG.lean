/- The document's Complete. -/
import Derived.Test.YtlbdpnlmdcajbaaDF
import Derived.Test.YtlbdpnlmdcajbaaX
import Derived.Test.YtlbdpnlmdcajbaaZS
namespace Go.Proofs.Ytlbdpnlmdcajbaa
open Go.RowKit
open Nat renaming reduceEqDiff → nA, reduceLT → nB, reduceLeDiff → nC, reduceAdd → nD, reduceMul → nE, reduceSub → nF, reduceBEq → nG
open Int renaming reduceToNat → iA, reduceLT → iB, reduceLE → iC, reduceEq → iD
open Bool renaming and_eq_true → bA, or_eq_true → bB, or_eq_false_iff → bC, and_eq_false_iff → bD, not_eq_true' → bE, not_eq_false' → bF, not_true → bG, not_false → bH
set_option linter.all false
set_option maxHeartbeats 4000000
attribute [local irreducible] AW Does ACall tE tS tB tZ
def dLDG0 : List En := [(0, false, []), (1, false, []), (2, false, []), (3, false, []), (4, false, []), (5, false, []), (6, false, []), (7, false, []), (8, false, []), (9, false, []), (10, false, [])]
def dADG0 : List (List Nat) := [[], [0], [], [0, 1, 2], [0, 1, 2, 3], [0, 1, 2, 3, 4], [0, 1, 2, 3, 4, 5], [], [7], [0, 1, 2, 3, 4, 5, 6, 7, 8], [0, 1, 2, 3, 4, 5, 6, 7, 8, 9]]
attribute [push_cast] dLDG0
set_option maxRecDepth 5000

/-- numbers rise: the lesser ones are those ahead -/
theorem rise_split {c : Cd} {m b : Int} : ∀ {l : List Pd} {i : Nat} {n b : Int} {p : Pd}, pdGo c n b l = true → l[i]? = some p → ((l.eraseIdx i).filter (ltP p.num) = l.take i ∧ (l.eraseIdx i).filter (fun q => !ltP p.num q) = l.drop (i + 1)) := by
  intro l i n b p h hp
  have hge : ∀ (l : List Pd) (n b : Int), pdGo c n b l = true → ∀ q ∈ l, n < q.num := fun l n b h q hq => (pdGo_mem h q hq).2.2.1
  induction l generalizing i n b with
  | nil => simp at hp
  | cons x l ih =>
    rw [pdGo_cons] at h
    cases i with
    | zero =>
      simp only [List.getElem?_cons_zero, Option.some.injEq] at hp
      subst hp
      have hg := hge l _ _ h.2
      refine ⟨?_, ?_⟩
      · rw [List.eraseIdx_cons_zero, List.take_zero, List.filter_eq_nil_iff]
        intro q hq
        have := hg q hq
        simp [ltP]; omega
      · rw [List.eraseIdx_cons_zero, List.drop_succ_cons, List.drop_zero, List.filter_eq_self]
        intro q hq
        have := hg q hq
        simp [ltP]; omega
    | succ i =>
      simp only [List.getElem?_cons_succ] at hp
      obtain ⟨h1, h2⟩ := ih h.2 hp
      have hlt : x.num < p.num := hge l _ _ h.2 p (List.mem_of_getElem? hp)
      have e : ltP p.num x = true := by simp [ltP, hlt]
      refine ⟨?_, ?_⟩
      · rw [List.eraseIdx_cons_succ, List.filter_cons_of_pos e, h1, List.take_succ_cons]
      · rw [List.eraseIdx_cons_succ, List.filter_cons_of_neg (by simp [e]), h2, List.drop_succ_cons]
theorem own_c4 {c : Cd} {g : AV} {Y H : Heap} {gs : List Int} {al : List Ak} {a : Value} (hg : OwnL Y g 25 1 (gs.map iu) H) : Weak (.t [.g (c.cl (.l 4 (c.pend.map Pd.av))), .l 2 (al.map Ak.av), g, .c a]) Y (.t [.g c.av, .l 2 (al.map Ak.av), .l 1 (gs.map iu), .c a]) H :=
  (OwnL.wp hg).weak fun F F' hF hj => Imp.t (Imps.cons (Imp.refl hF _) (fun h => by cases h) (Imps.cons (Imp.refl hF _) (fun _ => rfl) (Imps.cons hj.1 (fun _ => rfl) (Imps.cons (Imp.refl hF _) id Imps.nil))))
theorem compR_at {c : Cd} {nm : Int} (hok : cdOk c = true) {i : Nat} (hi : fndS c.pend nm = (i : Int)) (hp : c.pend[i]? = some (pdAt c nm)) : compC c nm = { c with pend := c.pend.drop (i + 1) } ∧ ((rest22 c nm).filter (ltP nm)) = c.pend.take i := by
  have hn := fndS_num hi hp
  obtain ⟨h1, h2⟩ := rise_split (m := 0) (b := 0) ((cdOk_iff c).1 hok).2 hp
  rw [hn] at h1 h2
  unfold compC rest22
  rw [hi]
  simp only [Int.toNat_natCast]
  exact ⟨by rw [h2], h1⟩
theorem refComplete_p (c : Cd) (hok : cdOk c = true) (nm : Int) : Pure Try.prog 45 [.g (Cd.av c), .c (.int .u64 nm)] (.t [.g (compR c nm).1.av, .l 2 ((compR c nm).2.1.map Ak.av), .l 1 ((compR c nm).2.2.1.map iu), .c (.int .i64 (compR c nm).2.2.2)]) := by
  intro H
  have hcp := Copy_p c (small_of hok)
  have hl2 := (cdOk_bd hok).1
  have hbd := (cdOk_bd hok).2
  have hfd := refFind_p c (by unfold maxLen; omega) nm
  have hR : compR c nm = if compE c nm = 0 then (compC c nm, (pdAt c nm).acks, ((rest22 c nm).filter (ltP nm)).map Pd.num, 0) else (zeroC, [], [], compE c nm) := by unfold compR; rw [if_neg (by rw [hok]; decide)]
  rw [hR]
  clear hR
  have hE : compE c nm = if fndS c.pend nm < 0 then 4 else if ((pdAt c nm).acks.length : Int) < c.tasks then 322 else 0 := rfl
  have hts : (¬ fndS c.pend nm < 0) → ((pdAt c nm).acks.length : Int) ≤ c.tasks ∧ ∃ i : Nat, fndS c.pend nm = (i : Int) ∧ c.pend[i]? = some (pdAt c nm) ∧ compC c nm = { c with pend := c.pend.drop (i + 1) } ∧ ((rest22 c nm).filter (ltP nm)) = c.pend.take i := fun h => by
    obtain ⟨i, hi, hp⟩ := fndS_at h
    have h3 := (akGo_len c.tasks _ _ (pdGo_all c c.pend 0 0 ((cdOk_iff c).1 hok).2 _ (List.mem_of_getElem? hp))).1
    have h4 := (cdOk_ep hok)
    exact ⟨by omega, i, hi, hp, compR_at hok hi hp⟩
  generalize compE c nm = E at *
  generalize compC c nm = C at *
  generalize ((rest22 c nm).filter (ltP nm)) = gs at *
  generalize pdAt c nm = P at *
  generalize fndS c.pend nm = I at *
  obtain ⟨c0, c1, c2, c3, c4, l⟩ := c
  simp only at hl2 hbd hE hts
  have hav : ∀ a0 a1 a2 a3 a4 a5, Cd.av ⟨a0, a1, a2, a3, a4, a5⟩ = [.c (.int .u64 a0), .c (.int .u64 a1), .c (.int .i64 a2), .c (.int .i64 a3), .c (.int .i64 a4), .l 4 (a5.map Pd.av)] := fun _ _ _ _ _ _ => rfl
  rw [hav c0 c1 c2 c3 c4 l] at hcp hfd ⊢
  have hz2 := zc4 H
  replace hz2 := Lib.hid hz2
  clear hav hok
  by_cases hI : I < 0
  · rw [if_pos hI] at hE
    subst hE
    rw [if_neg (by decide)]
    clear hts hcp hbd
    refine ACall_of' Try.func45 rfl (Ent_of Try.func45 (by kernel_rfl) rfl) (by simp [Try.ntmps45]) ?_; simp only [Try.ntmps45, Try.results45]
    repeat' (first
    | refine AW_seq_kn fun K hK => ?_
    | refine AW_block ?_
    | (refine does_call rfl rfl ?_; simp only [push_cast, seval, *]; refine ACall.monoP (hfd _) ?_; (try simp only [push_cast, seval, *]))
    | ((first
      | refine AW_region_draw (id := 4) E0 (fun f => [].contains f) dLDG0 dADG0 mixed (by kernel_rfl) ?_
      | refine AW_region E0 ?_ | refine AW_ret ?_ | refine AW_exit ?_ | refine AW_skip ?_ | unfold retQ); try simp only [push_cast, seval, *])
    | (apply AW_cond; (case hc => (simp only [push_cast, seval]; rfl)); all_goals (intro hc; first | (exfalso; simp only [push_cast, seval, *] at hc; done) | (exact absurd hc (by decide)) | ((try first | rw [Bool.not_true] at hc | rw [Bool.not_false] at hc); first | (with_reducible replace hc := tTT hc); clear hc | (with_reducible replace hc := tFF hc); clear hc | (have hp := hc; try simp only [decide_eq_true_eq, decide_eq_false_iff_not, bA, bB, bC, bD, bE, bF, bG, bH] at hp))))
    | (refine Kn.go hK ?_; clear hK K)
    | refine Kn.go (by assumption) ?_
    | (intro n hn; (try simp only [upd_none2, join_none_iff, ite_none, ne_eq] at hn); (try simp only [push_cast, seval, *]))
    | (intro hc)
    | fail)
    exact ⟨_, H, Weak.trans (Weak.less (by (repeat' (first | exact Heap.le_refl _ | refine hle_upd2 ?_ _ _ | (refine Heap.le_new ?_ ?_; rotate_left 1; focus (first | assumption | (simp only [upd_none2, upd_get, ne_eq, push_cast, seval, *]; done) | (simp [upd_get, *]; done))))))) (unhid hz2 _), rfl, rfl⟩
  rw [if_neg hI] at hE
  obtain ⟨hle, i, rfl, hp, rfl, rfl⟩ := hts hI
  have hrow : (l.map Pd.av)[i]? = some (Pd.av P) := by rw [List.getElem?_map, hp]; rfl
  have hil := (List.getElem?_eq_some_iff.1 hp).1
  have hPl := (hbd P (List.mem_of_getElem? hp)).1
  obtain ⟨num, bg, sv, ac⟩ := P
  have hpv : Pd.av ⟨num, bg, sv, ac⟩ = [.c (.int .u64 num), .c (.int .i64 bg), .c (.bool sv), .l 2 (ac.map Ak.av)] := rfl
  rw [hpv] at hrow
  simp only at hE hle hPl ⊢
  have hi0 : (0 : Int) ≤ i := by omega
  have hiI : (i : Int) < l.length := by omega
  clear hts hbd hpv hp
  by_cases hlk : (ac.length : Int) < c2
  · rw [if_pos hlk] at hE
    subst hE
    rw [if_neg (by decide)]
    have hneF : ¬ (ac.length : Int) = c2 := by omega
    clear hcp
    refine ACall_of' Try.func45 rfl (Ent_of Try.func45 (by kernel_rfl) rfl) (by simp [Try.ntmps45]) ?_; simp only [Try.ntmps45, Try.results45]
    repeat' (first
    | refine AW_seq_kn fun K hK => ?_
    | refine AW_block ?_
    | (refine does_call rfl rfl ?_; simp only [push_cast, seval, *]; refine ACall.monoP (hfd _) ?_; (try simp only [push_cast, seval, *]))
    | ((first
      | refine AW_region_draw (id := 4) E0 (fun f => [].contains f) dLDG0 dADG0 mixed (by kernel_rfl) ?_
      | refine AW_region E0 ?_ | refine AW_ret ?_ | refine AW_exit ?_ | refine AW_skip ?_ | unfold retQ); try simp only [push_cast, seval, *])
    | (apply AW_cond; (case hc => (simp only [push_cast, seval]; rfl)); all_goals (intro hc; first | (exfalso; simp only [push_cast, seval, *] at hc; done) | (exact absurd hc (by decide)) | ((try first | rw [Bool.not_true] at hc | rw [Bool.not_false] at hc); first | (with_reducible replace hc := tTT hc); clear hc | (with_reducible replace hc := tFF hc); clear hc | (have hp := hc; try simp only [decide_eq_true_eq, decide_eq_false_iff_not, bA, bB, bC, bD, bE, bF, bG, bH] at hp))))
    | (refine Kn.go hK ?_; clear hK K)
    | refine Kn.go (by assumption) ?_
    | (intro n hn; (try simp only [upd_none2, join_none_iff, ite_none, ne_eq] at hn); (try simp only [push_cast, seval, *]))
    | (intro hc)
    | fail)
    exact ⟨_, H, Weak.trans (Weak.less (by (repeat' (first | exact Heap.le_refl _ | refine hle_upd2 ?_ _ _ | (refine Heap.le_new ?_ ?_; rotate_left 1; focus (first | assumption | (simp only [upd_none2, upd_get, ne_eq, push_cast, seval, *]; done) | (simp [upd_get, *]; done))))))) (unhid hz2 _), rfl, rfl⟩
  rw [if_neg hlk] at hE
  subst hE
  rw [if_pos rfl]
  have hneT : (ac.length : Int) = c2 := by omega
  subst hneT
  clear hz2 hlk hle
  have hE1 := tE41
  have hS1 := tS25
  have hB1 := tB25
  have hZ1 := tZ25
  have hE4 := tE28
  have hS4 := tS61
  have hB4 := tB61
  have hZ4 := tZ61
  have hil2 : (i : Int) ≤ l.length := by omega
  have hi1w : IntKind.i64.wrap ((i : Int) + 1) = (i : Int) + 1 := wrap_i64 (by omega) (by omega)
  have hi1a : (0 : Int) ≤ i + 1 := by omega
  have hi1b : (i : Int) + 1 ≤ l.length := by omega
  have hi1c : ((i : Int) + 1).toNat = i + 1 := by omega
  refine ACall_of' Try.func45 rfl (Ent_of Try.func45 (by kernel_rfl) rfl) (by simp [Try.ntmps45]) ?_; simp only [Try.ntmps45, Try.results45]
  repeat' (first
    | refine AW_seq_kn fun K hK => ?_
    | refine AW_block ?_
    | (refine does_call rfl rfl ?_; simp only [push_cast, seval, *]; refine ACall.monoP (hfd _) ?_; (try simp only [push_cast, seval, *]))
    | (refine does_call rfl rfl ?_; simp only [push_cast, seval, *]; refine ACall.monoP (hcp _) ?_; (try simp only [push_cast, seval, *]))
    | ((first
      | refine AW_region_draw (id := 4) E0 (fun f => [].contains f) dLDG0 dADG0 mixed (by kernel_rfl) ?_
      | refine AW_region E0 ?_ | refine AW_ret ?_ | refine AW_exit ?_ | refine AW_skip ?_ | unfold retQ); try simp only [push_cast, seval, *])
    | (apply AW_cond; (case hc => (simp only [push_cast, seval]; rfl)); all_goals (intro hc; first | (exfalso; simp only [push_cast, seval, *] at hc; done) | (exact absurd hc (by decide)) | ((try first | rw [Bool.not_true] at hc | rw [Bool.not_false] at hc); first | (with_reducible replace hc := tTT hc); clear hc | (with_reducible replace hc := tFF hc); clear hc | (have hp := hc; try simp only [decide_eq_true_eq, decide_eq_false_iff_not, bA, bB, bC, bD, bE, bF, bG, bH] at hp))))
    | (refine Kn.go hK ?_; clear hK K)
    | refine Kn.go (by assumption) ?_
    | (intro n hn; (try simp only [upd_none2, join_none_iff, ite_none, ne_eq] at hn); (try simp only [push_cast, seval, *]))
    | (intro hc)
    | fail)
  rename_i n1 h1
  generalize n = n2 at *
  have n12 : ¬ n1 = n2 := hn.1.2
  have n21 : ¬ n2 = n1 := hn.1.1
  have e1 : H n1 = none := h1
  have e2 : H n2 = none := hn.2
  rw [upd_comm n21, upd_upd, ← List.map_take, List.length_map]
  obtain ⟨T, hT⟩ : ∃ T, T = l.take i := ⟨_, rfl⟩
  have hTl : T.length = i := by rw [hT, List.length_take]; omega
  rw [← hT]
  obtain ⟨G, hG⟩ : ∃ G : Heap, G = upd (upd H n1 (.r 30 6 1 [[.c (.int .u64 c0), .c (.int .u64 c1), .c (.int .i64 ac.length), .c (.int .i64 c3), .c (.int .i64 c4), .l 4 (l.map Pd.av)]])) n2 (.r 30 6 1 [zcl]) := ⟨_, rfl⟩
  have g1 : G n1 = some (.r 30 6 1 [[.c (.int .u64 c0), .c (.int .u64 c1), .c (.int .i64 ac.length), .c (.int .i64 c3), .c (.int .i64 c4), .l 4 (l.map Pd.av)]]) := by rw [hG, upd_ne n12, upd_same]
  have g2 : G n2 = some (.r 30 6 1 [zcl]) := by rw [hG, upd_same]
  have hleG : Heap.le H G := by rw [hG]; (repeat' (first | exact Heap.le_refl _ | refine hle_upd2 ?_ _ _ | (refine Heap.le_new ?_ ?_; rotate_left 1; focus (first | assumption | (simp only [upd_none2, upd_get, ne_eq, push_cast, seval, *]; done) | (simp [upd_get, *]; done)))))
  rw [show upd (upd H n1 (.r 30 6 1 [[.c (.int .u64 c0), .c (.int .u64 c1), .c (.int .i64 ac.length), .c (.int .i64 c3), .c (.int .i64 c4), .l 4 (l.map Pd.av)]])) n2 (.r 30 6 1 [zcl]) = G from hG.symm]
  clear hG h1 hn hfd hcp
  replace hleG := Lib.hid hleG
  replace e1 := Lib.hid e1
  replace e2 := Lib.hid e2
  replace hT := Lib.hid hT
  have hT2 : T.length ≤ 2 := by omega
  replace hTl := Lib.hid hTl
  refine AW_loopX (σ := AV × Heap) T.length (fun k s => OwnL s.2 s.1 25 1 (((T.take k).map Pd.num).map iu) G) (fun k s => [(2, .p n1 6 0 0), (4, .p n2 6 0 0), (8, ci i), (9, s.1), (37, .l 4 (T.map Pd.av)), (38, ci T.length), (39, ci k)]) (fun _ s => s.2) (.c (.slice none 0 0), G) (OwnL.nil _ _ _) ?_ ?_ ?_ ?_
  · (first | trivial | (simp only [push_cast, seval, *]; done))
  · exact Heap.le_refl _
  · rintro k ⟨z, S⟩ hk ho
    simp only at ho
    have hp := List.getElem?_eq_getElem (l := T) hk; generalize T[k] = p at hp; have hpm := List.mem_of_getElem? hp; have hkl : (k : Int) < T.length := (by omega); have hkw : IntKind.i64.wrap ((k : Int) + 1) = (k : Int) + 1 := wrap_i64 (by omega) (by omega)
    have hsn : ((T.take (k + 1)).map Pd.num).map iu = ((T.take k).map Pd.num).map iu ++ [[.c (.int .u64 p.num)]] := by rw [take_snoc hp, List.map_append, List.map_append]; rfl
    have hlk : (((T.take k).map Pd.num).map iu).length ≤ 2 := by simp; omega
    obtain ⟨num', bg', sv', ac'⟩ := p
    have hpv : Pd.av ⟨num', bg', sv', ac'⟩ = [.c (.int .u64 num'), .c (.int .i64 bg'), .c (.bool sv'), .l 2 (ac'.map Ak.av)] := rfl
    simp only at hsn
    generalize ((T.take k).map Pd.num).map iu = R0 at *
    generalize ((T.take (k + 1)).map Pd.num).map iu = R1 at *
    subst hsn
    have zcs := ho.cs
    have zone := ho.one
    replace ho := Lib.hid ho
    clear hpm
    repeat' (first
    | refine AW_seq_kn fun K hK => ?_
    | refine AW_block ?_
    | ((first
      | refine AW_region_draw (id := 4) E0 (fun f => [].contains f) dLDG0 dADG0 mixed (by kernel_rfl) ?_
      | refine AW_region E0 ?_ | refine AW_ret ?_ | refine AW_exit ?_ | refine AW_skip ?_ | unfold retQ); try simp only [push_cast, seval, *])
    | (apply AW_cond; (case hc => (simp only [push_cast, seval]; rfl)); all_goals (intro hc; first | (exfalso; simp only [push_cast, seval, *] at hc; done) | (exact absurd hc (by decide)) | ((try first | rw [Bool.not_true] at hc | rw [Bool.not_false] at hc); first | (with_reducible replace hc := tTT hc); clear hc | (with_reducible replace hc := tFF hc); clear hc | (have hp := hc; try simp only [decide_eq_true_eq, decide_eq_false_iff_not, bA, bB, bC, bD, bE, bF, bG, bH] at hp))))
    | (refine Kn.go hK ?_; clear hK K)
    | refine Kn.go (by assumption) ?_
    | (intro n hn; (try simp only [upd_none2, join_none_iff, ite_none, ne_eq] at hn); (try simp only [push_cast, seval, *]))
    | (intro hc)
    | fail)
    rename_i n9 h9
    refine does_app1 rfl rfl rfl rfl ((Loc.own _ _ _ _).new (unhid ho) h9 _) (by simp only [upd_none2, push_cast, seval, *]) hE1 hS1 hB1 hZ1 rfl (by decide) (by simp only [maxLen]; omega) (by omega) ?_
    intro z2 H2 hz2
    have zcs2 := hz2.cs
    have zone2 := hz2.one
    obtain ⟨H3, l1, l2⟩ := (Loc.own _ _ _ _).cut hz2 (K := G) (le_upd_new ((Loc.own _ _ _ _).old (unhid ho) h9))
    replace l1 := Lib.hid l1
    replace l2 := Lib.hid l2
    clear hz2 zcs zone
    (try simp only [push_cast, seval, *])
    repeat' (first
    | refine AW_seq_kn fun K hK => ?_
    | refine AW_block ?_
    | ((first
      | refine AW_region_draw (id := 4) E0 (fun f => [].contains f) dLDG0 dADG0 mixed (by kernel_rfl) ?_
      | refine AW_region E0 ?_ | refine AW_ret ?_ | refine AW_exit ?_ | refine AW_skip ?_ | unfold retQ); try simp only [push_cast, seval, *])
    | (apply AW_cond; (case hc => (simp only [push_cast, seval]; rfl)); all_goals (intro hc; first | (exfalso; simp only [push_cast, seval, *] at hc; done) | (exact absurd hc (by decide)) | ((try first | rw [Bool.not_true] at hc | rw [Bool.not_false] at hc); first | (with_reducible replace hc := tTT hc); clear hc | (with_reducible replace hc := tFF hc); clear hc | (have hp := hc; try simp only [decide_eq_true_eq, decide_eq_false_iff_not, bA, bB, bC, bD, bE, bF, bG, bH] at hp))))
    | (refine Kn.go hK ?_; clear hK K)
    | refine Kn.go (by assumption) ?_
    | (intro n hn; (try simp only [upd_none2, join_none_iff, ite_none, ne_eq] at hn); (try simp only [push_cast, seval, *]))
    | (intro hc)
    | fail)
    exact ⟨(z2, H3), unhid l2, by (first | trivial | (simp only [push_cast, seval, *]; done)), unhid l1⟩
  · rintro ⟨z, S⟩ ho
    simp only [List.take_length] at ho
    have s1 := ho.get g1
    have s2 := ho.get g2
    have zcs := ho.cs
    have zone := ho.one
    obtain ⟨X2, v1, v2, v3⟩ := (Loc.own _ _ _ _).cutx ho (unhid hleG)
    have v4 := v3 n1 (by rw [g1]; simp) (unhid e1)
    have v5 := v3 n2 (by rw [g2]; simp) (unhid e2)
    replace v1 := Lib.hid v1
    replace v2 := Lib.hid v2
    replace v4 := Lib.hid v4
    replace v5 := Lib.hid v5
    clear ho v3
    simp only [zcl] at s2
    have hdl : (l.drop (i + 1)).length ≤ 2 := by simp; omega
    have hdt : List.take (l.length - (i + 1)) (List.drop (i + 1) (l.map Pd.av)) = (l.drop (i + 1)).map Pd.av := by rw [← List.map_drop, List.take_of_length_le (by simp)]
    have hdl2 : (List.take (l.length - (i + 1)) (List.drop (i + 1) (l.map Pd.av))).length ≤ 2 := by rw [hdt, List.length_map]; exact hdl
    replace hdt := Lib.hid hdt
    have o1 := ne_old s1
    have o2 := ne_old s2
    repeat' (first
    | refine AW_seq_kn fun K hK => ?_
    | refine AW_block ?_
    | ((first
      | refine AW_region_draw (id := 4) E0 (fun f => [].contains f) dLDG0 dADG0 mixed (by kernel_rfl) ?_
      | refine AW_region E0 ?_ | refine AW_ret ?_ | refine AW_exit ?_ | refine AW_skip ?_ | unfold retQ); try simp only [push_cast, seval, *])
    | (apply AW_cond; (case hc => (simp only [push_cast, seval]; rfl)); all_goals (intro hc; first | (exfalso; simp only [push_cast, seval, *] at hc; done) | (exact absurd hc (by decide)) | ((try first | rw [Bool.not_true] at hc | rw [Bool.not_false] at hc); first | (with_reducible replace hc := tTT hc); clear hc | (with_reducible replace hc := tFF hc); clear hc | (have hp := hc; try simp only [decide_eq_true_eq, decide_eq_false_iff_not, bA, bB, bC, bD, bE, bF, bG, bH] at hp))))
    | (refine Kn.go hK ?_; clear hK K)
    | refine Kn.go (by assumption) ?_
    | (intro n hn; (try simp only [upd_none2, join_none_iff, ite_none, ne_eq] at hn); (try simp only [push_cast, seval, *]))
    | (intro hc)
    | fail)
    refine Does.frozen (ty := 61) (does_appL (news := List.take (l.length - (i + 1)) (List.drop (i + 1) (l.map Pd.av))) rfl rfl rfl (OwnL.fresh hn) hE4 hS4 hB4 hZ4 rfl (by decide) (by rw [List.length_nil]; unfold maxLen; omega) (by rw [List.length_nil]; omega) (fun _ _ h' => h')) ?_
    rw [List.nil_append, unhid hdt]
    clear hdt hdl2
    generalize l.drop (i + 1) = D at *
    clear hn o1 o2
    (try simp only [push_cast, seval, *])
    repeat' (first
    | refine AW_seq_kn fun K hK => ?_
    | refine AW_block ?_
    | ((first
      | refine AW_region_draw (id := 4) E0 (fun f => [].contains f) dLDG0 dADG0 mixed (by kernel_rfl) ?_
      | refine AW_region E0 ?_ | refine AW_ret ?_ | refine AW_exit ?_ | refine AW_skip ?_ | unfold retQ); try simp only [push_cast, seval, *])
    | (apply AW_cond; (case hc => (simp only [push_cast, seval]; rfl)); all_goals (intro hc; first | (exfalso; simp only [push_cast, seval, *] at hc; done) | (exact absurd hc (by decide)) | ((try first | rw [Bool.not_true] at hc | rw [Bool.not_false] at hc); first | (with_reducible replace hc := tTT hc); clear hc | (with_reducible replace hc := tFF hc); clear hc | (have hp := hc; try simp only [decide_eq_true_eq, decide_eq_false_iff_not, bA, bB, bC, bD, bE, bF, bG, bH] at hp))))
    | (refine Kn.go hK ?_; clear hK K)
    | refine Kn.go (by assumption) ?_
    | (intro n hn; (try simp only [upd_none2, join_none_iff, ite_none, ne_eq] at hn); (try simp only [push_cast, seval, *]))
    | (intro hc)
    | fail)
    exact ⟨_, H, Weak.trans (Weak.less (H' := X2) (by repeat' (first | exact unhid v1 | refine le_skip ?_ (unhid v4) | refine le_skip ?_ (unhid v5)))) (own_c4 (c := ⟨c0, c1, ac.length, c3, c4, D⟩) (unhid v2)), by rw [unhid hT]; rfl, rfl⟩
end Go.Proofs.Ytlbdpnlmdcajbaa
