/- A copy of a coordinator is changed. -/
import Derived.Test.YtlbdpnlmdcajbaaH
namespace Go.Proofs.Ytlbdpnlmdcajbaa
open Go.RowKit
open Nat renaming reduceEqDiff → nA, reduceLT → nB, reduceLeDiff → nC, reduceAdd → nD, reduceMul → nE, reduceSub → nF, reduceBEq → nG
open Int renaming reduceToNat → iA, reduceLT → iB, reduceLE → iC, reduceEq → iD
open Bool renaming and_eq_true → bA, or_eq_true → bB, or_eq_false_iff → bC, and_eq_false_iff → bD, not_eq_true' → bE, not_eq_false' → bF, not_true → bG, not_false → bH
set_option linter.all false
set_option maxHeartbeats 4000000
attribute [local irreducible] AW Does ACall tE tS tB tZ
def dLI0 : List En := [(0, false, []), (1, false, []), (2, false, []), (3, true, []), (4, false, []), (5, false, []), (6, false, []), (7, false, []), (8, false, []), (9, false, []), (10, false, []), (11, false, []), (12, false, []), (13, false, [3]), (14, false, []), (15, false, []), (16, false, [])]
def dAI0 : List (List Nat) := [[], [0], [0, 1], [0, 1, 2], [], [], [5], [5, 6], [5, 6, 7], [], [5, 6, 7, 8, 9], [5, 6, 7, 8, 9, 10], [5, 6, 7, 8, 9, 10, 11], [5, 6, 7, 8, 9, 10, 11, 12], [0, 1, 2, 3, 4, 5, 6, 7, 8, 9, 10, 11, 12, 13], [0, 1, 2, 3, 4, 5, 6, 7, 8, 9, 10, 11, 12, 13, 14], [0, 1, 2, 3, 4, 5, 6, 7, 8, 9, 10, 11, 12, 13, 14, 15]]
attribute [push_cast] dLI0

theorem ACall.fr {P : Program} {f : FuncId} {args : List AV} {R : HR} {K F A0 : Heap} {Q : AV → Heap → Prop} (hR : Loc R) (h : R A0 (join K F)) (ha : Apart K F) (hc : ∀ A, R A K → ACall P f args A Q) : ACall P f args A0 (fun r H' => ∃ B', H' = join B' F ∧ Apart B' F ∧ Q r B') := by
  obtain ⟨A, rfl, h1, h2⟩ := hR.unjoin h ha
  rw [join_comm h1]
  refine (ACall.frame h1.symm (hc A h2)).mono ?_
  rintro r H' ⟨B', rfl, h3, h4⟩
  exact ⟨B', join_comm h3, h3.symm, h4⟩
theorem upd_split {H : Heap} {n : Nat} {k : Blk} (hn : H n = none) : upd H n k = join H (upd emp n k) ∧ Apart H (upd emp n k) := by
  refine ⟨?_, ((Apart.emp H).upd k hn).symm⟩
  funext q; simp only [upd, join]
  by_cases e : q = n
  · subst e; simp [hn]
  · simp [e]
theorem rows_at {α β : Type} {f : α → List AV} {g : β → List AV} {L : List α} {l : List β} {k : Nat} {p : β} (hL : L.length = k) (hp : l[k]? = some p) (v : α) (w : List AV) (hw : w = f v) :
    (L.map f ++ (l.drop k).map g)[k]? = some (g p) ∧ (L.map f ++ (l.drop k).map g).length = l.length ∧ (L.map f ++ (l.drop k).map g).set k w = (L ++ [v]).map f ++ (l.drop (k + 1)).map g := by
  subst hL hw
  have hk := (List.getElem?_eq_some_iff.1 hp).1
  rw [drop_get hp]
  refine ⟨by simp, by simp; omega, by simp⟩
theorem map_snoc {α : Type} {L : List (AV × α)} {l : List α} {k : Nat} {p : α} {y : AV} (h : L.map Prod.snd = l.take k) (hp : l[k]? = some p) : (L ++ [(y, p)]).map Prod.snd = l.take (k + 1) := by
  rw [List.map_append, h, take_snoc hp]; rfl
theorem map_len {α : Type} {L : List (AV × α)} {l : List α} {k : Nat} (h : L.map Prod.snd = l.take k) (hk : k ≤ l.length) : L.length = k := by
  have := congrArg List.length h
  simpa [Nat.min_eq_left hk] using this
theorem OwnL.put {H : Heap} {m len cap sz : Nat} {ty : TypeId} {rows : List (List AV)} (hl : len = rows.length) : OwnL (upd H m (.r ty sz cap rows)) (.s m sz 0 len cap) ty sz rows (del H m) := by
  have h := OwnL.of (G := upd H m (.r ty sz cap rows)) (upd_same _ _ _) hl
  rwa [show del (upd H m (.r ty sz cap rows)) m = del H m from by funext q; simp only [del, upd]; by_cases e : q = m <;> simp [e]] at h
theorem with_g (c : Cd) (hfit : ∀ p ∈ c.pend, p.fits) (hok : cdOk c = true) (gf : FuncId) (caps : List AV) (G : Heap) (e : Int) (c' : Cd) (J : Heap → Prop)
    (h : ∀ x A nb, G nb = none → OwnP x c.pend A (upd G nb (bxC c x)) → ACall Try.prog gf ([.p nb 6 0 0] ++ caps) A fun r A' => r = .c (.int .i64 e) ∧ ((e = 0 ∧ ∃ x' G', J G' ∧ G' nb = none ∧ OwnP x' c'.pend A' (upd G' nb (bxC c' x'))) ∨ (¬ e = 0 ∧ ∃ G', J G' ∧ Heap.le G' A'))) :
    ACall Try.prog 60 [.g (Cd.av c), .f (.func gf) [] caps] G fun r H' => (e = 0 ∧ ∃ y G', r = .t [.g (c'.cl y), .c (.int .i64 0)] ∧ J G' ∧ OwnP y c'.pend H' G') ∨ (¬ e = 0 ∧ r = .t [.g (zeroC.cl (.c (.slice none 0 0))), .c (.int .i64 e)] ∧ J H') := by
  obtain ⟨hl2, hbd⟩ := cdOk_bd hok
  have hch := Check_p c (by unfold maxLen; omega) hfit
  rw [hok] at hch
  have hcl := pclone_o c.pend (by omega)
  obtain ⟨c0, c1, c2, c3, c4, l⟩ := c
  simp only [Cd.av, if_true] at hch hcl hl2 hbd h ⊢
  clear hfit hok
  replace h := Lib.hid h
  replace hbd := Lib.hid hbd
  refine ACall_of' Try.func60 rfl (Ent_of Try.func60 (by kernel_rfl) rfl) (by simp [Try.ntmps60]) ?_; simp only [Try.ntmps60, Try.results60]
  repeat' (first
    | refine AW_seq_kn fun K hK => ?_
    | refine AW_block ?_
    | (refine does_call rfl rfl ?_; simp only [push_cast, seval, *]; refine ACall.monoP (hch _) ?_; (try simp only [push_cast, seval, *]))
    | ((first
      | refine AW_region_draw (id := 13) E0 (fun f => [].contains f) dLI0 dAI0 mixed (by kernel_rfl) ?_
      | refine AW_region E0 ?_ | refine AW_ret ?_ | refine AW_exit ?_ | refine AW_skip ?_ | unfold retQ); try simp only [push_cast, seval, *])
    | (apply AW_cond; (case hc => (simp only [push_cast, seval]; rfl)); all_goals (intro hc; first | (exfalso; simp only [push_cast, seval, *] at hc; done) | (exact absurd hc (by decide)) | ((try first | rw [Bool.not_true] at hc | rw [Bool.not_false] at hc); first | (with_reducible replace hc := tTT hc); clear hc | (with_reducible replace hc := tFF hc); clear hc | (have hp := hc; try simp only [decide_eq_true_eq, decide_eq_false_iff_not, bA, bB, bC, bD, bE, bF, bG, bH] at hp))))
    | (refine Kn.go hK ?_; clear hK K)
    | refine Kn.go (by assumption) ?_
    | (intro n hn; (try simp only [upd_none2, join_none_iff, ite_none, ne_eq] at hn); (try simp only [push_cast, seval, *]))
    | (intro hc)
    | fail)
  rename_i n1 h1
  generalize n = n2 at *
  refine does_call rfl rfl ?_
  simp only [push_cast, seval, *]
  refine ACall.mono (hcl _) ?_
  intro x B hown
  have hcs := hown.cs
  have hone := hown.one
  have hlen := hown.len
  have n12 : ¬ n1 = n2 := hn.1.2
  have n21 : ¬ n2 = n1 := hn.1.1
  rw [List.length_map] at hlen
  have k1 := hown.get (m := n1) (k := .r 30 6 1 [[.c (.int .u64 c0), .c (.int .u64 c1), .c (.int .i64 c2), .c (.int .i64 c3), .c (.int .i64 c4), .l 4 (l.map Pd.av)]]) (by simp only [push_cast, seval, upd_get, *])
  have ht := hown.turn (m := n1) (by simp only [push_cast, seval, upd_get, *]; rfl) (bxC ⟨c0, c1, c2, c3, c4, l⟩ x)
  obtain ⟨base, hbase⟩ : ∃ base, base = upd (upd G n1 (bxC ⟨c0, c1, c2, c3, c4, l⟩ x)) n2 (.r 30 6 1 [[.c (.int .u64 0), .c (.int .u64 0), .c (.int .i64 0), .c (.int .i64 0), .c (.int .i64 0), .c (.slice none 0 0)]]) := ⟨_, rfl⟩
  have hb2 : upd (upd (upd G n1 (.r 30 6 1 [[.c (.int .u64 c0), .c (.int .u64 c1), .c (.int .i64 c2), .c (.int .i64 c3), .c (.int .i64 c4), .l 4 (l.map Pd.av)]])) n2 (.r 30 6 1 [[.c (.int .u64 0), .c (.int .u64 0), .c (.int .i64 0), .c (.int .i64 0), .c (.int .i64 0), .c (.slice none 0 0)]])) n1 (bxC ⟨c0, c1, c2, c3, c4, l⟩ x) = base := by
    rw [hbase]; funext q; simp only [upd]; by_cases e1 : q = n1 <;> by_cases e2 : q = n2 <;> simp [e1, e2, n12, n21]
  rw [hb2] at ht
  have q1 : base n1 = some (.r 30 6 1 [[.c (.int .u64 c0), .c (.int .u64 c1), .c (.int .i64 c2), .c (.int .i64 c3), .c (.int .i64 c4), x]]) := by rw [hbase, upd_ne n12, upd_same]; rfl
  have q2 : base n2 = some (.r 30 6 1 [[.c (.int .u64 0), .c (.int .u64 0), .c (.int .i64 0), .c (.int .i64 0), .c (.int .i64 0), .c (.slice none 0 0)]]) := by rw [hbase, upd_same]
  have hbx : bxC ⟨c0, c1, c2, c3, c4, l⟩ x = .r 30 6 1 [[.c (.int .u64 c0), .c (.int .u64 c1), .c (.int .i64 c2), .c (.int .i64 c3), .c (.int .i64 c4), x]] := rfl
  rw [hbx] at ht
  replace hbase := Lib.hid hbase
  replace ht := Lib.hid ht
  clear hb2 hown hch hcl
  (try simp only [push_cast, seval, *])
  repeat' (first
    | refine AW_seq_kn fun K hK => ?_
    | refine AW_block ?_
    | ((first
      | refine AW_region_draw (id := 13) E0 (fun f => [].contains f) dLI0 dAI0 mixed (by kernel_rfl) ?_
      | refine AW_region E0 ?_ | refine AW_ret ?_ | refine AW_exit ?_ | refine AW_skip ?_ | unfold retQ); try simp only [push_cast, seval, *])
    | (apply AW_cond; (case hc => (simp only [push_cast, seval]; rfl)); all_goals (intro hc; first | (exfalso; simp only [push_cast, seval, *] at hc; done) | (exact absurd hc (by decide)) | ((try first | rw [Bool.not_true] at hc | rw [Bool.not_false] at hc); first | (with_reducible replace hc := tTT hc); clear hc | (with_reducible replace hc := tFF hc); clear hc | (have hp := hc; try simp only [decide_eq_true_eq, decide_eq_false_iff_not, bA, bB, bC, bD, bE, bF, bG, bH] at hp))))
    | (refine Kn.go hK ?_; clear hK K)
    | refine Kn.go (by assumption) ?_
    | (intro n hn; (try simp only [upd_none2, join_none_iff, ite_none, ne_eq] at hn); (try simp only [push_cast, seval, *]))
    | (intro hc)
    | fail)
  refine AW_loopX (σ := List (AV × Pd) × Heap) l.length (fun k s => ∃ H1, OwnL s.2 x 61 4 (s.1.map encP ++ (l.drop k).map Pd.av) H1 ∧ Chain RP s.1 H1 base ∧ s.1.map Prod.snd = l.take k)
    (fun k s => [(1, .f (.func gf) [] caps), (2, .p n1 6 0 0), (4, .p n2 6 0 0), (23, ci l.length), (24, ci k)]) (fun k s => s.2) ([], upd B n1 (.r 30 6 1 [[.c (.int .u64 c0), .c (.int .u64 c1), .c (.int .i64 c2), .c (.int .i64 c3), .c (.int .i64 c4), x]])) ⟨base, unhid ht, rfl, rfl⟩ ?_ ?_ ?_ ?_
  · (first | trivial | (simp only [push_cast, seval, *]; done))
  · exact Heap.le_refl _
  · rintro k ⟨L, Hs⟩ hk ⟨H1, ho, hch, hmap⟩
    simp only at ho hch hmap ⊢
    have hLk := map_len hmap (by omega)
    obtain ⟨p, hp⟩ : ∃ p, l[k]? = some p := ⟨_, List.getElem?_eq_getElem hk⟩
    have hR := fun y : AV => rows_at (f := encP) (g := Pd.av) hLk hp (y, p) (encP (y, p)) rfl
    have hms := fun y : AV => map_snoc (y := y) hmap hp
    have hkI : (k : Int) < l.length := by omega
    have hkw : IntKind.i64.wrap ((k : Int) + 1) = (k : Int) + 1 := wrap_i64 (by omega) (by omega)
    generalize hRR : L.map encP ++ (l.drop k).map Pd.av = R at ho hR
    obtain ⟨hRk, hRl, -⟩ := hR .x
    rcases ho.split with ⟨ad, -, rfl, -⟩ | ⟨np, cap, rfl, rfl, hnp⟩
    · simp at hRl; omega
    have j1 := (Loc.chain RP_loc L).get hch q1
    have j2 := (Loc.chain RP_loc L).get hch q2
    have m1 : ¬ n1 = np := by rintro rfl; rw [hnp] at j1; cases j1
    have m2 : ¬ np = n1 := fun e => m1 e.symm
    have m3 : ¬ n2 = np := by rintro rfl; rw [hnp] at j2; cases j2
    have m4 : ¬ np = n2 := fun e => m3 e.symm
    rw [hRl] at j1 ⊢
    have hbp := unhid hbd p (List.mem_of_getElem? hp)
    have hac := aclone_o p.acks (by omega)
    obtain ⟨num, bg, sv, ac⟩ := p
    simp only [Pd.av] at hRk
    simp only at hbp hac
    replace hR := Lib.hid hR
    replace hbp := Lib.hid hbp
    replace hch := Lib.hid hch
    replace hms := Lib.hid hms
    clear ho hmap hRR ht hbase hbx k1 q1 q2 hcs hone hlen
    repeat' (first
    | refine AW_seq_kn fun K hK => ?_
    | refine AW_block ?_
    | ((first
      | refine AW_region_draw (id := 13) E0 (fun f => [].contains f) dLI0 dAI0 mixed (by kernel_rfl) ?_
      | refine AW_region E0 ?_ | refine AW_ret ?_ | refine AW_exit ?_ | refine AW_skip ?_ | unfold retQ); try simp only [push_cast, seval, *])
    | (apply AW_cond; (case hc => (simp only [push_cast, seval]; rfl)); all_goals (intro hc; first | (exfalso; simp only [push_cast, seval, *] at hc; done) | (exact absurd hc (by decide)) | ((try first | rw [Bool.not_true] at hc | rw [Bool.not_false] at hc); first | (with_reducible replace hc := tTT hc); clear hc | (with_reducible replace hc := tFF hc); clear hc | (have hp := hc; try simp only [decide_eq_true_eq, decide_eq_false_iff_not, bA, bB, bC, bD, bE, bF, bG, bH] at hp))))
    | (refine Kn.go hK ?_; clear hK K)
    | refine Kn.go (by assumption) ?_
    | (intro n hn; (try simp only [upd_none2, join_none_iff, ite_none, ne_eq] at hn); (try simp only [push_cast, seval, *]))
    | (intro hc)
    | fail)
    refine does_call rfl rfl ?_
    simp only [push_cast, seval, *]
    refine ACall.mono (hac _) ?_
    intro y G1 hoy
    have hycs := hoy.cs
    have hyone := hoy.one
    have hylen := hoy.len
    rw [List.length_map] at hylen
    have g1 := hoy.get (m := n1) (k := .r 30 6 1 [[.c (.int .u64 c0), .c (.int .u64 c1), .c (.int .i64 c2), .c (.int .i64 c3), .c (.int .i64 c4), .s np 4 0 l.length cap]]) (by simp only [push_cast, seval, upd_get, *])
    have g2 := hoy.get (m := n2) (k := .r 30 6 1 [[.c (.int .u64 0), .c (.int .u64 0), .c (.int .i64 0), .c (.int .i64 0), .c (.int .i64 0), .c (.slice none 0 0)]]) (by simp only [push_cast, seval, upd_get, *])
    have gp := hoy.get (upd_same _ _ _)
    replace hoy := Lib.hid hoy
    clear hac
    (try simp only [push_cast, seval, *])
    repeat' (first
    | refine AW_seq_kn fun K hK => ?_
    | refine AW_block ?_
    | ((first
      | refine AW_region_draw (id := 13) E0 (fun f => [].contains f) dLI0 dAI0 mixed (by kernel_rfl) ?_
      | refine AW_region E0 ?_ | refine AW_ret ?_ | refine AW_exit ?_ | refine AW_skip ?_ | unfold retQ); try simp only [push_cast, seval, *])
    | (apply AW_cond; (case hc => (simp only [push_cast, seval]; rfl)); all_goals (intro hc; first | (exfalso; simp only [push_cast, seval, *] at hc; done) | (exact absurd hc (by decide)) | ((try first | rw [Bool.not_true] at hc | rw [Bool.not_false] at hc); first | (with_reducible replace hc := tTT hc); clear hc | (with_reducible replace hc := tFF hc); clear hc | (have hp := hc; try simp only [decide_eq_true_eq, decide_eq_false_iff_not, bA, bB, bC, bD, bE, bF, bG, bH] at hp))))
    | (refine Kn.go hK ?_; clear hK K)
    | refine Kn.go (by assumption) ?_
    | (intro n hn; (try simp only [upd_none2, join_none_iff, ite_none, ne_eq] at hn); (try simp only [push_cast, seval, *]))
    | (intro hc)
    | fail)
    have hoy2 := (unhid hoy).turn (upd_same _ _ _) (.r 61 4 cap (R.set k [.c (.int .u64 num), .c (.int .i64 bg), .c (.bool sv), y]))
    rw [upd_upd] at hoy2
    have hR2 : (R.set k [.c (.int .u64 num), .c (.int .i64 bg), .c (.bool sv), y])[k]? = some [.c (.int .u64 num), .c (.int .i64 bg), .c (.bool sv), y] := List.getElem?_set_self (by omega)
    have hR2l : (R.set k [.c (.int .u64 num), .c (.int .i64 bg), .c (.bool sv), y]).length = l.length := by simp [hRl]
    have hR3 := (unhid hR y).2.2
    simp only [encP] at hR3
    rw [hR3] at hoy2 hR2 hR2l ⊢
    clear hoy g1 g2 gp hR hRk hRl hR3
    generalize hRR2 : (L ++ [(y, (⟨num, bg, sv, ac⟩ : Pd))]).map encP ++ (l.drop (k + 1)).map Pd.av = R2 at hoy2 hR2 hR2l ⊢
    replace hRR2 := Lib.hid hRR2
    obtain ⟨b2, hb2⟩ : ∃ b2, b2 = upd H1 np (.r 61 4 cap R2) := ⟨_, rfl⟩
    rw [← hb2] at hoy2
    have p1 : b2 n1 = some (.r 30 6 1 [[.c (.int .u64 c0), .c (.int .u64 c1), .c (.int .i64 c2), .c (.int .i64 c3), .c (.int .i64 c4), .s np 4 0 l.length cap]]) := by rw [hb2, upd_ne m1]; exact j1
    have p2 : b2 n2 = some (.r 30 6 1 [[.c (.int .u64 0), .c (.int .u64 0), .c (.int .i64 0), .c (.int .i64 0), .c (.int .i64 0), .c (.slice none 0 0)]]) := by rw [hb2, upd_ne m3]; exact j2
    have p3 : b2 np = some (.r 61 4 cap R2) := by rw [hb2, upd_same]
    replace hb2 := Lib.hid hb2
    refine AW_loopX (σ := List (AV × Ak) × Heap) ac.length (fun j s => ∃ G1, OwnL s.2 y 47 2 (s.1.map encA ++ (ac.drop j).map Ak.av) G1 ∧ Chain RA s.1 G1 b2 ∧ s.1.map Prod.snd = ac.take j)
      (fun j s => [(1, .f (.func gf) [] caps), (2, .p n1 6 0 0), (4, .p n2 6 0 0), (8, .p np 4 k 0), (23, ci l.length), (24, ci k), (43, ci ac.length), (44, ci j)]) (fun j s => s.2) ([], upd G1 np (.r 61 4 cap R2)) ⟨b2, hoy2, rfl, rfl⟩ ?_ ?_ ?_ ?_
    · (first | trivial | (simp only [push_cast, seval, *]; done))
    · exact Heap.le_refl _
    · rintro j ⟨M, Hs⟩ hj ⟨G2, ho, hcm, hmap⟩
      simp only at ho hcm hmap ⊢
      have hMj := map_len hmap (by omega)
      obtain ⟨a, ha⟩ : ∃ a, ac[j]? = some a := ⟨_, List.getElem?_eq_getElem hj⟩
      have hA := fun z : AV => rows_at (f := encA) (g := Ak.av) hMj ha (z, a) (encA (z, a)) rfl
      have hms2 := fun z : AV => map_snoc (y := z) hmap ha
      have hal : (ac.length : Int) ≤ 16 := by have := (unhid hbp).1; omega
      have hjI : (j : Int) < ac.length := by omega
      have hjw : IntKind.i64.wrap ((j : Int) + 1) = (j : Int) + 1 := wrap_i64 (by omega) (by omega)
      generalize hAA : M.map encA ++ (ac.drop j).map Ak.av = A at ho hA
      obtain ⟨hAk, hAl, -⟩ := hA .x
      rcases ho.split with ⟨ad, -, rfl, -⟩ | ⟨na, cap2, rfl, rfl, hna⟩
      · simp at hAl; omega
      have e1 := (Loc.chain RA_loc M).get hcm p1
      have e2 := (Loc.chain RA_loc M).get hcm p2
      have e3 := (Loc.chain RA_loc M).get hcm p3
      have u1 : ¬ n1 = na := by rintro rfl; rw [hna] at e1; cases e1
      have u2 : ¬ na = n1 := fun e => u1 e.symm
      have u3 : ¬ n2 = na := by rintro rfl; rw [hna] at e2; cases e2
      have u4 : ¬ na = n2 := fun e => u3 e.symm
      have u5 : ¬ np = na := by rintro rfl; rw [hna] at e3; cases e3
      have u6 : ¬ na = np := fun e => u5 e.symm
      rw [hAl] at hR2 ⊢
      have hbb := (unhid hbp).2 a (List.mem_of_getElem? ha)
      have hbc := bclone_o a.bytes (by omega)
      obtain ⟨task, bs⟩ := a
      simp only [Ak.av] at hAk
      simp only at hbc hbb
      replace hA := Lib.hid hA
      replace hcm := Lib.hid hcm
      replace hms2 := Lib.hid hms2
      clear ho hmap hAA hoy2 p1 p2 p3 j1 j2 hycs hyone hylen
      repeat' (first
    | refine AW_seq_kn fun K hK => ?_
    | refine AW_block ?_
    | (refine does_call rfl rfl ?_; simp only [push_cast, seval, *]; refine ACall.mono (hbc _) ?_; intro z G3 hoz; have hzcs := hoz.cs; have hzone := hoz.one; have w1 := hoz.get (upd_same _ _ _); have w2 := hoz.get (m := np) (k := .r 61 4 cap R2) (by rw [upd_ne u5]; exact e3); (try simp only [push_cast, seval, *]))
    | ((first
      | refine AW_region_draw (id := 13) E0 (fun f => [].contains f) dLI0 dAI0 mixed (by kernel_rfl) ?_
      | refine AW_region E0 ?_ | refine AW_ret ?_ | refine AW_exit ?_ | refine AW_skip ?_ | unfold retQ); try simp only [push_cast, seval, *])
    | (apply AW_cond; (case hc => (simp only [push_cast, seval]; rfl)); all_goals (intro hc; first | (exfalso; simp only [push_cast, seval, *] at hc; done) | (exact absurd hc (by decide)) | ((try first | rw [Bool.not_true] at hc | rw [Bool.not_false] at hc); first | (with_reducible replace hc := tTT hc); clear hc | (with_reducible replace hc := tFF hc); clear hc | (have hp := hc; try simp only [decide_eq_true_eq, decide_eq_false_iff_not, bA, bB, bC, bD, bE, bF, bG, bH] at hp))))
    | (refine Kn.go hK ?_; clear hK K)
    | refine Kn.go (by assumption) ?_
    | (intro n hn; (try simp only [upd_none2, join_none_iff, ite_none, ne_eq] at hn); (try simp only [push_cast, seval, *]))
    | (intro hc)
    | fail)
      have hoz2 := hoz.dele (upd_same _ _ _)
      rw [del_upd_same hna] at hoz2
      have hA3 := (unhid hA z).2.2
      simp only [encA] at hA3
      refine ⟨(M ++ [(z, ⟨task, bs⟩)], upd G3 na (.r 47 2 cap2 (A.set j [.c (.int .i64 task), z]))), ⟨del G3 na, ?_, Chain.snoc RA_loc (a := (⟨task, bs⟩ : Ak)) hoz2 (unhid hcm), unhid hms2 z⟩, trivial, Heap.le_refl _⟩
      rw [hA3]
      exact OwnL.put (by rw [← hA3]; simp [hAl])
    · rintro ⟨M, Hs⟩ ⟨G2, ho, hcm, hmap⟩
      simp only [List.drop_length, List.map_nil, List.append_nil, List.take_length] at ho hcm hmap ⊢
      have hoa : OwnA y ac Hs b2 := ⟨M, hmap, G2, ho, hcm⟩
      rw [unhid hb2] at hoa
      obtain ⟨H3, o1, o2⟩ := (OwnA_loc y ac).swap (Loc.own _ _ _ _) hoa (OwnL.at (ty := 61) (sz := 4) (cap := cap) hR2l.symm hnp)
      have hch2 := Chain.snoc RP_loc (a := (⟨num, bg, sv, ac⟩ : Pd)) o2 (unhid hch)
      rw [← unhid hRR2] at o1
      have hms3 := unhid hms y
      clear ho hcm hmap hoa hoy2 p1 p2 p3 j1 j2 hycs hyone hylen hch hms hRR2 hb2 o2
      replace o1 := Lib.hid o1
      replace hch2 := Lib.hid hch2
      replace hms3 := Lib.hid hms3
      repeat' (first
    | refine AW_seq_kn fun K hK => ?_
    | refine AW_block ?_
    | ((first
      | refine AW_region_draw (id := 13) E0 (fun f => [].contains f) dLI0 dAI0 mixed (by kernel_rfl) ?_
      | refine AW_region E0 ?_ | refine AW_ret ?_ | refine AW_exit ?_ | refine AW_skip ?_ | unfold retQ); try simp only [push_cast, seval, *])
    | (apply AW_cond; (case hc => (simp only [push_cast, seval]; rfl)); all_goals (intro hc; first | (exfalso; simp only [push_cast, seval, *] at hc; done) | (exact absurd hc (by decide)) | ((try first | rw [Bool.not_true] at hc | rw [Bool.not_false] at hc); first | (with_reducible replace hc := tTT hc); clear hc | (with_reducible replace hc := tFF hc); clear hc | (have hp := hc; try simp only [decide_eq_true_eq, decide_eq_false_iff_not, bA, bB, bC, bD, bE, bF, bG, bH] at hp))))
    | (refine Kn.go hK ?_; clear hK K)
    | refine Kn.go (by assumption) ?_
    | (intro n hn; (try simp only [upd_none2, join_none_iff, ite_none, ne_eq] at hn); (try simp only [push_cast, seval, *]))
    | (intro hc)
    | fail)
      exact ⟨(L ++ [(y, ⟨num, bg, sv, ac⟩)], Hs), ⟨H3, unhid o1, unhid hch2, unhid hms3⟩, by (first | trivial | (simp only [push_cast, seval, *]; done)), Heap.le_refl _⟩
  · rintro ⟨L, Hs⟩ ⟨H1, ho, hch, hmap⟩
    simp only [List.drop_length, List.map_nil, List.append_nil, List.take_length] at ho hch hmap ⊢
    have hop : OwnP x l Hs base := ⟨L, hmap, H1, ho, hch⟩
    obtain ⟨f1, f2⟩ := upd_split (H := upd G n1 (bxC ⟨c0, c1, c2, c3, c4, l⟩ x)) (n := n2) (k := .r 30 6 1 [[.c (.int .u64 0), .c (.int .u64 0), .c (.int .i64 0), .c (.int .i64 0), .c (.int .i64 0), .c (.slice none 0 0)]]) (by rw [upd_ne n21]; exact hn.2)
    have hcall := ACall.fr (OwnP_loc x l) (by rw [← f1, ← unhid hbase]; exact hop) f2 (fun A hA => unhid h x A n1 h1 hA)
    have j1 := (OwnP_loc x l).get hop q1
    have j2 := (OwnP_loc x l).get hop q2
    clear ho hch hmap hop f1 ht hbase hbx k1 q1 q2 hcs hone hlen h hbd
    replace hcall := Lib.hid hcall
    repeat' (first
    | refine AW_seq_kn fun K hK => ?_
    | refine AW_block ?_
    | ((first
      | refine AW_region_draw (id := 13) E0 (fun f => [].contains f) dLI0 dAI0 mixed (by kernel_rfl) ?_
      | refine AW_region E0 ?_ | refine AW_ret ?_ | refine AW_exit ?_ | refine AW_skip ?_ | unfold retQ); try simp only [push_cast, seval, *])
    | (apply AW_cond; (case hc => (simp only [push_cast, seval]; rfl)); all_goals (intro hc; first | (exfalso; simp only [push_cast, seval, *] at hc; done) | (exact absurd hc (by decide)) | ((try first | rw [Bool.not_true] at hc | rw [Bool.not_false] at hc); first | (with_reducible replace hc := tTT hc); clear hc | (with_reducible replace hc := tFF hc); clear hc | (have hp := hc; try simp only [decide_eq_true_eq, decide_eq_false_iff_not, bA, bB, bC, bD, bE, bF, bG, bH] at hp))))
    | (refine Kn.go hK ?_; clear hK K)
    | refine Kn.go (by assumption) ?_
    | (intro n hn; (try simp only [upd_none2, join_none_iff, ite_none, ne_eq] at hn); (try simp only [push_cast, seval, *]))
    | (intro hc)
    | fail)
    refine does_call_f rfl (by simp only [push_cast, seval]; rfl) ?_
    simp only [push_cast, seval, *]
    refine ACall.mono (unhid hcall) ?_
    rintro r H' ⟨B', rfl, hap, rfl, hpost⟩
    have b2n : B' n2 = none := by
      rcases hap n2 with g | g
      · exact g
      · rw [upd_same] at g; cases g
    have g2 : join B' (upd emp n2 (.r 30 6 1 [[.c (.int .u64 0), .c (.int .u64 0), .c (.int .i64 0), .c (.int .i64 0), .c (.int .i64 0), .c (.slice none 0 0)]])) n2 = some (.r 30 6 1 [[.c (.int .u64 0), .c (.int .u64 0), .c (.int .i64 0), .c (.int .i64 0), .c (.int .i64 0), .c (.slice none 0 0)]]) := by rw [join_right b2n, upd_same]
    have hBle : ∀ blk, Heap.le B' (upd (join B' (upd emp n2 (.r 30 6 1 [[.c (.int .u64 0), .c (.int .u64 0), .c (.int .i64 0), .c (.int .i64 0), .c (.int .i64 0), .c (.slice none 0 0)]]))) n2 blk) := fun blk q b hq => by
      have : q ≠ n2 := by rintro rfl; rw [b2n] at hq; cases hq
      rw [upd_ne this]; exact join_left hq
    clear hcall hap f2 j1 j2
    rcases hpost with ⟨rfl, x', G', hJ, hn', ho⟩ | ⟨he, G', hJ, hle⟩
    · have g1 : join B' (upd emp n2 (.r 30 6 1 [[.c (.int .u64 0), .c (.int .u64 0), .c (.int .i64 0), .c (.int .i64 0), .c (.int .i64 0), .c (.slice none 0 0)]])) n1 = some (.r 30 6 1 [c'.cl x']) := join_left ((OwnP_loc x' _).get ho (upd_same _ _ _))
      obtain ⟨H2, l1, l2⟩ := (OwnP_loc x' _).cut ho (K := G') (le_upd_new hn')
      have hx1 := l2.cs
      have hx2 := l2.one
      generalize join B' (upd emp n2 (.r 30 6 1 [[.c (.int .u64 0), .c (.int .u64 0), .c (.int .i64 0), .c (.int .i64 0), .c (.int .i64 0), .c (.slice none 0 0)]])) = HJ at *
      simp only [Cd.cl] at g1
      clear ho
      replace l1 := Lib.hid l1
      replace l2 := Lib.hid l2
      replace hJ := Lib.hid hJ
      replace hBle := Lib.hid hBle
      (try simp only [push_cast, seval, *])
      repeat' (first
    | refine AW_seq_kn fun K hK => ?_
    | refine AW_block ?_
    | ((first
      | refine AW_region_draw (id := 13) E0 (fun f => [].contains f) dLI0 dAI0 mixed (by kernel_rfl) ?_
      | refine AW_region E0 ?_ | refine AW_ret ?_ | refine AW_exit ?_ | refine AW_skip ?_ | unfold retQ); try simp only [push_cast, seval, *])
    | (apply AW_cond; (case hc => (simp only [push_cast, seval]; rfl)); all_goals (intro hc; first | (exfalso; simp only [push_cast, seval, *] at hc; done) | (exact absurd hc (by decide)) | ((try first | rw [Bool.not_true] at hc | rw [Bool.not_false] at hc); first | (with_reducible replace hc := tTT hc); clear hc | (with_reducible replace hc := tFF hc); clear hc | (have hp := hc; try simp only [decide_eq_true_eq, decide_eq_false_iff_not, bA, bB, bC, bD, bE, bF, bG, bH] at hp))))
    | (refine Kn.go hK ?_; clear hK K)
    | refine Kn.go (by assumption) ?_
    | (intro n hn; (try simp only [upd_none2, join_none_iff, ite_none, ne_eq] at hn); (try simp only [push_cast, seval, *]))
    | (intro hc)
    | fail)
      exact ⟨_, H2, Weak.less (Heap.le_trans (unhid l1) (unhid hBle _)), .inl ⟨x', G', rfl, unhid hJ, unhid l2⟩⟩
    · generalize join B' (upd emp n2 (.r 30 6 1 [[.c (.int .u64 0), .c (.int .u64 0), .c (.int .i64 0), .c (.int .i64 0), .c (.int .i64 0), .c (.slice none 0 0)]])) = HJ at *
      have heF : (e = 0) = False := by simp [he]
      have heT : decide (e = 0) = false := by simp [he]
      replace hle := Lib.hid hle
      replace hJ := Lib.hid hJ
      replace hBle := Lib.hid hBle
      (try simp only [push_cast, seval, *])
      repeat' (first
    | refine AW_seq_kn fun K hK => ?_
    | refine AW_block ?_
    | ((first
      | refine AW_region_draw (id := 13) E0 (fun f => [].contains f) dLI0 dAI0 mixed (by kernel_rfl) ?_
      | refine AW_region E0 ?_ | refine AW_ret ?_ | refine AW_exit ?_ | refine AW_skip ?_ | unfold retQ); try simp only [push_cast, seval, *])
    | (apply AW_cond; (case hc => (simp only [push_cast, seval]; rfl)); all_goals (intro hc; first | (exfalso; simp only [push_cast, seval, *] at hc; done) | (exact absurd hc (by decide)) | ((try first | rw [Bool.not_true] at hc | rw [Bool.not_false] at hc); first | (with_reducible replace hc := tTT hc); clear hc | (with_reducible replace hc := tFF hc); clear hc | (have hp := hc; try simp only [decide_eq_true_eq, decide_eq_false_iff_not, bA, bB, bC, bD, bE, bF, bG, bH] at hp))))
    | (refine Kn.go hK ?_; clear hK K)
    | refine Kn.go (by assumption) ?_
    | (intro n hn; (try simp only [upd_none2, join_none_iff, ite_none, ne_eq] at hn); (try simp only [push_cast, seval, *]))
    | (intro hc)
    | fail)
      exact ⟨_, G', Weak.less (Heap.le_trans (unhid hle) (unhid hBle _)), .inr ⟨rfl, unhid hJ⟩⟩
end Go.Proofs.Ytlbdpnlmdcajbaa
