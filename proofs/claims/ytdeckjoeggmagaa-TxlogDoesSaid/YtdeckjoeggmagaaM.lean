/- Walks: transactions are committed. -/
import Derived.Test.YtdeckjoeggmagaaL2
namespace Go.Proofs.Ytdeckjoeggmagaa
open Go.RowKit
open Nat renaming reduceEqDiff → nA, reduceLT → nB, reduceLeDiff → nC, reduceAdd → nD, reduceMul → nE, reduceSub → nF, reduceBEq → nG
open Int renaming reduceToNat → iA, reduceLT → iB, reduceLE → iC, reduceEq → iD
open Bool renaming and_eq_true → bA, or_eq_true → bB, or_eq_false_iff → bC, and_eq_false_iff → bD, not_eq_true' → bE, not_eq_false' → bF, not_true → bG, not_false → bH
set_option linter.all false
set_option maxHeartbeats 4000000
attribute [local irreducible] AW Does ACall tE tS tB tZ
def dLM0 : List En := [(0, false, []), (1, false, []), (2, false, []), (3, false, []), (4, false, []), (5, false, []), (6, false, []), (7, false, []), (8, false, []), (9, false, []), (10, false, []), (11, false, [])]
def dAM0 : List (List Nat) := [[], [0], [0, 1], [0, 1, 2], [0, 1, 2], [0, 1, 2, 4], [0, 1, 2, 3, 4, 5], [0, 1, 2, 3, 4, 5, 6], [0, 1, 2], [0, 1, 2, 3, 4, 5, 6, 7, 8], [0, 1, 2, 3, 4, 5, 6, 7, 8, 9], [0, 1, 2, 3, 4, 5, 6, 7, 8, 9, 10]]
attribute [push_cast] dLM0
def dLM1 : List En := [(0, false, []), (1, false, []), (2, false, []), (3, false, []), (4, false, []), (5, false, []), (6, false, []), (7, false, []), (8, false, []), (9, false, []), (10, false, [])]
def dAM1 : List (List Nat) := [[], [0], [0, 1], [0, 1, 2], [], [0, 1, 2, 3, 4], [0, 1, 2, 3, 4, 5], [0, 1, 2, 3, 4, 5, 6], [0, 1, 2, 3, 4, 5, 6], [0, 1, 2, 3, 4, 5, 6, 7], [0, 1, 2, 3, 4, 5, 6, 7, 8, 9]]
attribute [push_cast] dLM1
def dLM2 : List En := [(0, false, []), (1, false, []), (2, false, []), (3, false, []), (4, false, []), (5, false, []), (6, false, []), (7, false, []), (8, false, []), (9, false, []), (10, false, []), (11, false, []), (12, false, []), (13, false, []), (15, false, []), (16, false, []), (17, false, []), (18, true, []), (19, true, []), (14, false, [18, 19, 20]), (20, false, []), (21, false, []), (22, false, []), (23, false, []), (24, false, []), (25, false, []), (26, false, []), (27, false, [])]
def dAM2 : List (List Nat) := [[], [], [], [2], [2, 3], [2, 3, 4], [], [6], [6, 7], [6, 7, 8], [], [6, 7, 8, 9, 10], [6, 7, 8, 9, 10, 11], [6, 7, 8, 9, 10, 11, 12], [2, 3, 4, 5, 6, 7, 8, 9, 10, 11, 12, 13], [], [15], [15, 16], [15, 16, 17], [], [19], [2, 3, 4, 5, 6, 7, 8, 9, 10, 11, 12, 13, 14, 15, 16, 17, 18, 19, 20], [0, 2, 3, 4, 5, 6, 7, 8, 9, 10, 11, 12, 13, 14, 15, 16, 17, 18, 19, 20, 21], [0, 2, 3, 4, 5, 6, 7, 8, 9, 10, 11, 12, 13, 14, 15, 16, 17, 18, 19, 20, 21, 22], [0, 2, 3, 4, 5, 6, 7, 8, 9, 10, 11, 12, 13, 14, 15, 16, 17, 18, 19, 20, 21, 22, 23], [0, 1, 2, 3, 4, 5, 6, 7, 8, 9, 10, 11, 12, 13, 14, 15, 16, 17, 18, 19, 20, 21, 22, 23, 24], [0, 1, 2, 3, 4, 5, 6, 7, 8, 9, 10, 11, 12, 13, 14, 15, 16, 17, 18, 19, 20, 21, 22, 23, 24, 25], [0, 1, 2, 3, 4, 5, 6, 7, 8, 9, 10, 11, 12, 13, 14, 15, 16, 17, 18, 19, 20, 21, 22, 23, 24, 25, 26]]
attribute [push_cast] dLM2
set_option maxRecDepth 5000

def PreN (l : List Nm) (k : Nat) (p : Option Nm) : Prop := (k = 0 ∧ p = none) ∨ (0 < k ∧ ∃ y : Nm, p = some y ∧ l[k - 1]? = some y)
theorem commit1_a (l : Lg) (hok : lgOk l = true) (names : List Nm) (hns : names.length ≤ maxLen) (x1 x2 x3 : AV) (A : Heap) (nb : Nat) (G : Heap) (hnb : G nb = none) (h : OwnG x1 x2 x3 l A (upd G nb (bxL x1 x2 x3))) :
    ACall Try.prog 76 ([.p nb 3 0 0] ++ [.q [.l 3 (names.map Nm.av)] 0]) A fun r A' => r = .c (.int .i64 (commitE l names)) ∧ PostG (commitE l names) (commitL l names) (fun G' => G' = G) nb A' := by
  obtain ⟨hb1, hb2, hb3, -, hb5⟩ := lgOk_bd hok
  have hinv0 := Inv16.of hok
  have kb := (OwnG_loc x1 x2 x3 l).get h (upd_same _ _ _)
  obtain ⟨⟨cs1, cs2, cs3⟩, os1, os2, os3⟩ := OwnG_cs h
  obtain ⟨w1, w2, w3⟩ := OwnG_len h
  obtain ⟨e1, e2, e3⟩ := OwnG_lents h
  have hle : Heap.le G A := Heap.le_trans (le_upd_new hnb) ((OwnG_loc x1 x2 x3 l).le h)
  have hop1 : Opened x1 l.txs A := by obtain ⟨H1, h1, h2⟩ := h; exact Opened_of h1
  have hop2 : ∀ (k : Nat) (v : Nm), l.done[k]? = some v → ∃ (m cap : Nat), x2 = .s m 3 0 l.done.length cap ∧ A m = some (.r 26 3 cap (l.done.map Nm.av)) := fun k v hv => by
    obtain ⟨H1, h1, H2, h2, h3⟩ := h
    obtain ⟨m, cap, g1, g2⟩ := OwnL_open h2 hv
    exact ⟨m, cap, g1, (OwnX_loc _ _).get h1 g2⟩
  have hE : commitE l names = if riseN none names = false then 2 else if ¬ firstE l names names = 0 then firstE l names names else if 300 < (commitL l names).done.length then 6 else 0 := rfl
  obtain ⟨N, hN⟩ : ∃ N, N = commitL l names := ⟨_, rfl⟩
  rw [← hN] at hE ⊢
  generalize commitE l names = E at *
  have hbad : ¬ E = 0 → ∀ l', PostG E l' (fun G' => G' = G) nb A := fun he l' => .bad he rfl hle
  obtain ⟨a, b, c⟩ := l
  simp only at hb1 hb2 hb3 hb5 w1 w2 w3 hop1 hop2 e1 e2 e3
  unfold maxLen at hns
  have hEU := tU109
  replace hE := Lib.hid hE
  replace hN := Lib.hid hN
  replace h := Lib.hid h
  replace hbad := Lib.hid hbad
  replace hop1 := Lib.hid hop1
  replace hop2 := Lib.hid hop2
  replace e1 := Lib.hid e1
  replace hb5 := Lib.hid hb5
  have hrise := Lib.hid hinv0.rise
  replace hinv0 := Lib.hid hinv0
  clear e2 e3 hle hok
  have ob := ne_old kb
  refine ACall_of' Try.func76 rfl (Ent_of Try.func76 (by kernel_rfl) rfl) (by simp [Try.ntmps76]) ?_; simp only [Try.ntmps76, Try.results76]
  repeat' (first
    | refine AW_seq_kn fun K hK => ?_
    | refine AW_block ?_
    | (refine does_makeMap kN rfl ?_)
    | (refine does_call rfl rfl ?_; simp only [push_cast, seval, *]; refine ACall.monoP (Compare_p ⟨_, _, _⟩ ⟨_, _, _⟩ _) ?_; (try simp only [push_cast, seval, *]))
    | ((first
      | refine AW_region_draw (id := 10) E0 (fun f => [].contains f) dLM0 dAM0 mixed (by kernel_rfl) ?_
      | refine AW_region_draw (id := 25) E0 (fun f => [].contains f) dLM1 dAM1 mixed (by kernel_rfl) ?_
      | refine AW_region_draw (id := 27) E0 (fun f => [].contains f) dLM2 dAM2 mixed (by kernel_rfl) ?_
      | refine AW_region E0 ?_ | refine AW_ret ?_ | refine AW_exit ?_ | refine AW_skip ?_ | unfold retQ); try simp only [push_cast, seval, *])
    | ((first | (apply AW_cond; (case hc => (simp only [push_cast, seval]; rfl))) | (apply ER_guard; (case hb => (simp only [push_cast, seval]; rfl)))); all_goals ((intro hc; first | (exfalso; simp only [push_cast, seval, *] at hc; done) | (exact absurd hc (by decide)) | ((try first | rw [Bool.not_true] at hc | rw [Bool.not_false] at hc); first | (with_reducible replace hc := tTT hc); clear hc | (with_reducible replace hc := tFF hc); clear hc | (have hp := hc; try simp only [decide_eq_true_eq, decide_eq_false_iff_not, bA, bB, bC, bD, bE, bF, bG, bH] at hp))) <;> try simp only [push_cast, seval, *]))
    | (refine Kn.go hK ?_; clear hK K)
    | refine Kn.go (by assumption) ?_
    | (intro n hn; (try simp only [upd_none2, join_none_iff, ite_none, ne_eq] at hn); (try simp only [push_cast, seval, *]))
    | (intro hc)
    | (apply ER_blk; (case hp => rfl); (case hb => (simp only [push_cast, seval]; rfl)); (case hd => (simp only [push_cast, seval]; done)); (case h => (intro hc; simp only [push_cast, seval, *]; rfl)); simp only [push_cast, seval, *])
    | fail)
  rename_i d hd
  generalize n = e at *
  have ne_d : ¬ e = d := hn.1.1
  have nd_e : ¬ d = e := hn.1.2
  have hAe : A e = none := hn.2
  clear hn
  have hMle : ∀ D E', Heap.le A (upd (upd A d D) e E') := fun D E' => le_new2 hd hAe ne_d
  have kbM : ∀ D E', (upd (upd A d D) e E') nb = some (bxL x1 x2 x3) := fun D E' => hMle D E' _ _ kb
  have nbd : ¬ nb = d := by rintro rfl; rw [kb] at hd; cases hd
  have nbe : ¬ nb = e := by rintro rfl; rw [kb] at hAe; cases hAe
  have ndb : ¬ d = nb := fun h => nbd h.symm
  have neb : ¬ e = nb := fun h => nbe h.symm
  replace hMle := Lib.hid hMle
  replace kbM := Lib.hid kbM
  refine AW_loopX (σ := List (ME Nm) × Nat) b.length (fun k s => SetN (b.take k) s.1) (fun k s => [(0, .p nb 3 0 0), (1, .q [.l 3 (names.map Nm.av)] 0), (4, .c (.map (some d))), (5, .c (.map (some e))), (22, x2), (23, ci b.length), (24, ci k)]) (fun _ s => upd (upd A d (bm kN s.1 s.2 M0)) e (bm kN [] 0 M0)) ([], 0) SetN.nil ?_ ?_ ?_ ?_
  · (first | trivial | (simp only [push_cast, seval, *]; done))
  · exact Heap.le_refl _
  · rintro k ⟨lo, ck⟩ hk hset
    simp only at hset
    have hv := List.getElem?_eq_getElem (l := b) hk; generalize b[k] = v at hv; have hvm := List.mem_of_getElem? hv; have hkl : (k : Int) < b.length := (by omega); have hkw : IntKind.i64.wrap ((k : Int) + 1) = (k : Int) + 1 := wrap_i64 (by omega) (by omega)
    obtain ⟨m, cap, rfl, hm⟩ := unhid hop2 k v hv
    have md : ¬ m = d := by rintro rfl; rw [hm] at hd; cases hd
    have me : ¬ m = e := by rintro rfl; rw [hm] at hAe; cases hAe
    have om := ne_old hm
    have hbl : (b.map Nm.av).length = b.length := List.length_map _
    have hset2 : SetN (b.take (k + 1)) (putN v lo ck) := by rw [take_snoc hv]; exact hset.snoc v ck
    obtain ⟨s, at_, vn⟩ := v
    have hrv : (b.map Nm.av)[k]? = some [.c (.int .i64 s), .c (.int .i64 at_), .c (.int .i64 vn)] := by rw [List.getElem?_map, hv]; rfl
    have hIs : IsK (.g [.c (.int .i64 s), .c (.int .i64 at_), .c (.int .i64 vn)]) (kN ⟨s, at_, vn⟩) := IsK.g (u3 ⟨s, at_, vn⟩)
    generalize b.map Nm.av = RB at *
    unfold putN at hset2
    replace hIs := Lib.hid hIs
    replace hset2 := Lib.hid hset2
    clear hset hvm
    repeat' (first
    | refine AW_seq_kn fun K hK => ?_
    | refine AW_block ?_
    | (refine does_mapUpdateC (n := d) (enc := kN) (l := lo) (c := ck) (M := M0) (k := ⟨s, at_, vn⟩) (v := .bool true) kkN (.inl rfl) (by simp only [push_cast, seval, *]) (by simp only [push_cast, seval, *]) hEU (by simp only [push_cast, seval, *]; exact unhid hIs) (by simp only [push_cast, seval, *]; exact IsK.c _) ?_; (try simp only [push_cast, seval, *]))
    | (refine does_call rfl rfl ?_; simp only [push_cast, seval, *]; refine ACall.monoP (Compare_p ⟨_, _, _⟩ ⟨_, _, _⟩ _) ?_; (try simp only [push_cast, seval, *]))
    | ((first
      | refine AW_region_draw (id := 10) E0 (fun f => [].contains f) dLM0 dAM0 mixed (by kernel_rfl) ?_
      | refine AW_region_draw (id := 25) E0 (fun f => [].contains f) dLM1 dAM1 mixed (by kernel_rfl) ?_
      | refine AW_region_draw (id := 27) E0 (fun f => [].contains f) dLM2 dAM2 mixed (by kernel_rfl) ?_
      | refine AW_region E0 ?_ | refine AW_ret ?_ | refine AW_exit ?_ | refine AW_skip ?_ | unfold retQ); try simp only [push_cast, seval, *])
    | ((first | (apply AW_cond; (case hc => (simp only [push_cast, seval]; rfl))) | (apply ER_guard; (case hb => (simp only [push_cast, seval]; rfl)))); all_goals ((intro hc; first | (exfalso; simp only [push_cast, seval, *] at hc; done) | (exact absurd hc (by decide)) | ((try first | rw [Bool.not_true] at hc | rw [Bool.not_false] at hc); first | (with_reducible replace hc := tTT hc); clear hc | (with_reducible replace hc := tFF hc); clear hc | (have hp := hc; try simp only [decide_eq_true_eq, decide_eq_false_iff_not, bA, bB, bC, bD, bE, bF, bG, bH] at hp))) <;> try simp only [push_cast, seval, *]))
    | (refine Kn.go hK ?_; clear hK K)
    | refine Kn.go (by assumption) ?_
    | (intro n hn; (try simp only [upd_none2, join_none_iff, ite_none, ne_eq] at hn); (try simp only [push_cast, seval, *]))
    | (intro hc)
    | (apply ER_blk; (case hp => rfl); (case hb => (simp only [push_cast, seval]; rfl)); (case hd => (simp only [push_cast, seval]; done)); (case h => (intro hc; simp only [push_cast, seval, *]; rfl)); simp only [push_cast, seval, *])
    | fail)
    refine ⟨(mput ⟨s, at_, vn⟩ (.bool true) (.c (.bool true)) ck lo, mclk ⟨s, at_, vn⟩ lo ck), unhid hset2, by (first | trivial | (simp only [push_cast, seval, *]; done)), ?_⟩
    first
      | rfl
      | ((repeat' (first | exact Heap.le_refl _ | refine hle_upd2 ?_ _ _ | (refine Heap.le_new ?_ ?_; rotate_left 1; focus (first | assumption | (simp only [upd_none2, upd_get, ne_eq, push_cast, seval, *]; done) | (simp [upd_get, *]; done))))); all_goals rfl)
  · rintro ⟨lo1, ck1⟩ hset1
    simp only [List.take_length] at hset1
    obtain ⟨D, hD⟩ : ∃ D, D = bm kN lo1 ck1 M0 := ⟨_, rfl⟩
    rw [← hD]
    replace hset1 := Lib.hid hset1
    replace hD := Lib.hid hD
    clear hop2
    repeat' (first
    | refine AW_seq_kn fun K hK => ?_
    | refine AW_block ?_
    | (refine does_call rfl rfl ?_; simp only [push_cast, seval, *]; refine ACall.monoP (Compare_p ⟨_, _, _⟩ ⟨_, _, _⟩ _) ?_; (try simp only [push_cast, seval, *]))
    | ((first
      | refine AW_region_draw (id := 10) E0 (fun f => [].contains f) dLM0 dAM0 mixed (by kernel_rfl) ?_
      | refine AW_region_draw (id := 25) E0 (fun f => [].contains f) dLM1 dAM1 mixed (by kernel_rfl) ?_
      | refine AW_region_draw (id := 27) E0 (fun f => [].contains f) dLM2 dAM2 mixed (by kernel_rfl) ?_
      | refine AW_region E0 ?_ | refine AW_ret ?_ | refine AW_exit ?_ | refine AW_skip ?_ | unfold retQ); try simp only [push_cast, seval, *])
    | ((first | (apply AW_cond; (case hc => (simp only [push_cast, seval]; rfl))) | (apply ER_guard; (case hb => (simp only [push_cast, seval]; rfl)))); all_goals ((intro hc; first | (exfalso; simp only [push_cast, seval, *] at hc; done) | (exact absurd hc (by decide)) | ((try first | rw [Bool.not_true] at hc | rw [Bool.not_false] at hc); first | (with_reducible replace hc := tTT hc); clear hc | (with_reducible replace hc := tFF hc); clear hc | (have hp := hc; try simp only [decide_eq_true_eq, decide_eq_false_iff_not, bA, bB, bC, bD, bE, bF, bG, bH] at hp))) <;> try simp only [push_cast, seval, *]))
    | (refine Kn.go hK ?_; clear hK K)
    | refine Kn.go (by assumption) ?_
    | (intro n hn; (try simp only [upd_none2, join_none_iff, ite_none, ne_eq] at hn); (try simp only [push_cast, seval, *]))
    | (intro hc)
    | (apply ER_blk; (case hp => rfl); (case hb => (simp only [push_cast, seval]; rfl)); (case hd => (simp only [push_cast, seval]; done)); (case h => (intro hc; simp only [push_cast, seval, *]; rfl)); simp only [push_cast, seval, *])
    | fail)
    obtain ⟨RN, hRN⟩ : ∃ RN, RN = riseN none names := ⟨_, rfl⟩
    replace hRN := Lib.hid hRN
    refine AW_loopX (σ := Option Nm × List (ME Nm) × Nat) names.length (fun k s => SetN (names.take k) s.2.1 ∧ RN = riseN s.1 (names.drop k) ∧ PreN names k s.1) (fun k s => [(0, .p nb 3 0 0), (1, .q [.l 3 (names.map Nm.av)] 0), (4, .c (.map (some d))), (5, .c (.map (some e))), (31, .l 3 (names.map Nm.av)), (32, ci names.length), (33, ci k)]) (fun _ s => upd (upd A d D) e (bm kN s.2.1 s.2.2 M0)) (none, [], 0) ⟨SetN.nil, by rw [List.drop_zero]; exact unhid hRN, .inl ⟨rfl, rfl⟩⟩ ?_ ?_ ?_ ?_
    · (first | trivial | (simp only [push_cast, seval, *]; done))
    · exact Heap.le_refl _
    · rintro k ⟨p, lo, ck⟩ hk ⟨hset, hinv, hpre⟩
      simp only at hset hinv hpre
      have hv := List.getElem?_eq_getElem (l := names) hk; generalize names[k] = v at hv; have hvm := List.mem_of_getElem? hv; have hkl : (k : Int) < names.length := (by omega); have hkw : IntKind.i64.wrap ((k : Int) + 1) = (k : Int) + 1 := wrap_i64 (by omega) (by omega)
      have hset2 : SetN (names.take (k + 1)) (putN v lo ck) := by rw [take_snoc hv]; exact hset.snoc v ck
      have hnx : PreN names (k + 1) (some v) := .inr ⟨by omega, v, rfl, by rw [Nat.add_sub_cancel]; exact hv⟩
      rw [drop_get hv, riseN] at hinv
      obtain ⟨s, at_, vn⟩ := v
      have hnv : Nm.av ⟨s, at_, vn⟩ = [.c (.int .i64 s), .c (.int .i64 at_), .c (.int .i64 vn)] := rfl
      have hIs : IsK (.g [.c (.int .i64 s), .c (.int .i64 at_), .c (.int .i64 vn)]) (kN ⟨s, at_, vn⟩) := IsK.g (u3 ⟨s, at_, vn⟩)
      unfold putN at hset2
      replace hIs := Lib.hid hIs
      replace hset2 := Lib.hid hset2
      replace hnx := Lib.hid hnx
      clear hset hvm
      rcases hpre with ⟨hk0, rfl⟩ | ⟨hk0, ⟨ys, ya, yn⟩, rfl, hy⟩
      · have hk0I : ¬ (0 : Int) < k := by omega
        simp only [aftN, Bool.true_and] at hinv
        replace hinv := Lib.hid hinv
        replace hk0 := Lib.hid hk0
        repeat' (first
    | refine AW_seq_kn fun K hK => ?_
    | refine AW_block ?_
    | (refine does_mapUpdateC (n := e) (enc := kN) (l := lo) (c := ck) (M := M0) (k := ⟨s, at_, vn⟩) (v := .bool true) kkN (.inl rfl) (by simp only [push_cast, seval, *]) (by simp only [push_cast, seval, *]) hEU (by simp only [push_cast, seval, *]; exact unhid hIs) (by simp only [push_cast, seval, *]; exact IsK.c _) ?_; (try simp only [push_cast, seval, *]))
    | (refine does_call rfl rfl ?_; simp only [push_cast, seval, *]; refine ACall.monoP (Compare_p ⟨_, _, _⟩ ⟨_, _, _⟩ _) ?_; (try simp only [push_cast, seval, *]))
    | ((first
      | refine AW_region_draw (id := 10) E0 (fun f => [].contains f) dLM0 dAM0 mixed (by kernel_rfl) ?_
      | refine AW_region_draw (id := 25) E0 (fun f => [].contains f) dLM1 dAM1 mixed (by kernel_rfl) ?_
      | refine AW_region_draw (id := 27) E0 (fun f => [].contains f) dLM2 dAM2 mixed (by kernel_rfl) ?_
      | refine AW_region E0 ?_ | refine AW_ret ?_ | refine AW_exit ?_ | refine AW_skip ?_ | unfold retQ); try simp only [push_cast, seval, *])
    | ((first | (apply AW_cond; (case hc => (simp only [push_cast, seval]; rfl))) | (apply ER_guard; (case hb => (simp only [push_cast, seval]; rfl)))); all_goals ((intro hc; first | (exfalso; simp only [push_cast, seval, *] at hc; done) | (exact absurd hc (by decide)) | ((try first | rw [Bool.not_true] at hc | rw [Bool.not_false] at hc); first | (with_reducible replace hc := tTT hc); clear hc | (with_reducible replace hc := tFF hc); clear hc | (have hp := hc; try simp only [decide_eq_true_eq, decide_eq_false_iff_not, bA, bB, bC, bD, bE, bF, bG, bH] at hp))) <;> try simp only [push_cast, seval, *]))
    | (refine Kn.go hK ?_; clear hK K)
    | refine Kn.go (by assumption) ?_
    | (intro n hn; (try simp only [upd_none2, join_none_iff, ite_none, ne_eq] at hn); (try simp only [push_cast, seval, *]))
    | (intro hc)
    | (apply ER_blk; (case hp => rfl); (case hb => (simp only [push_cast, seval]; rfl)); (case hd => (simp only [push_cast, seval]; done)); (case h => (intro hc; simp only [push_cast, seval, *]; rfl)); simp only [push_cast, seval, *])
    | fail)
        refine ⟨(some ⟨s, at_, vn⟩, mput ⟨s, at_, vn⟩ (.bool true) (.c (.bool true)) ck lo, mclk ⟨s, at_, vn⟩ lo ck), ⟨unhid hset2, unhid hinv, unhid hnx⟩, by (first | trivial | (simp only [push_cast, seval, *]; done)), ?_⟩
        first
          | rfl
          | ((repeat' (first | exact Heap.le_refl _ | refine hle_upd2 ?_ _ _ | (refine Heap.le_new ?_ ?_; rotate_left 1; focus (first | assumption | (simp only [upd_none2, upd_get, ne_eq, push_cast, seval, *]; done) | (simp [upd_get, *]; done))))); all_goals rfl)
      · have hk0I : (0 : Int) < k := by omega
        have hk1 : IntKind.i64.wrap ((k : Int) - 1) = ((k - 1 : Nat) : Int) := by rw [wrap_i64 (by omega) (by omega)]; omega
        have hk1I : ((k - 1 : Nat) : Int) < names.length := by omega
        have hyv : Nm.av ⟨ys, ya, yn⟩ = [.c (.int .i64 ys), .c (.int .i64 ya), .c (.int .i64 yn)] := rfl
        have hcm := Compare_p ⟨ys, ya, yn⟩ ⟨s, at_, vn⟩
        simp only [Nm.av] at hcm
        simp only [aftN] at hinv
        generalize cmpN ⟨ys, ya, yn⟩ ⟨s, at_, vn⟩ = C at *
        obtain ⟨k1, hk1e⟩ : ∃ k1, k1 = k - 1 := ⟨_, rfl⟩
        rw [← hk1e] at hk1 hk1I hy
        clear hk1e
        by_cases hC : C < 0
        · have hC2 : ¬ 0 ≤ C := by omega
          rw [decide_eq_true hC, Bool.true_and] at hinv
          replace hinv := Lib.hid hinv
          repeat' (first
    | refine AW_seq_kn fun K hK => ?_
    | refine AW_block ?_
    | (refine does_call rfl rfl ?_; simp only [push_cast, seval, *]; refine ACall.monoP (hcm _) ?_; (try simp only [push_cast, seval, *]))
    | (refine does_mapUpdateC (n := e) (enc := kN) (l := lo) (c := ck) (M := M0) (k := ⟨s, at_, vn⟩) (v := .bool true) kkN (.inl rfl) (by simp only [push_cast, seval, *]) (by simp only [push_cast, seval, *]) hEU (by simp only [push_cast, seval, *]; exact unhid hIs) (by simp only [push_cast, seval, *]; exact IsK.c _) ?_; (try simp only [push_cast, seval, *]))
    | (refine does_call rfl rfl ?_; simp only [push_cast, seval, *]; refine ACall.monoP (Compare_p ⟨_, _, _⟩ ⟨_, _, _⟩ _) ?_; (try simp only [push_cast, seval, *]))
    | ((first
      | refine AW_region_draw (id := 10) E0 (fun f => [].contains f) dLM0 dAM0 mixed (by kernel_rfl) ?_
      | refine AW_region_draw (id := 25) E0 (fun f => [].contains f) dLM1 dAM1 mixed (by kernel_rfl) ?_
      | refine AW_region_draw (id := 27) E0 (fun f => [].contains f) dLM2 dAM2 mixed (by kernel_rfl) ?_
      | refine AW_region E0 ?_ | refine AW_ret ?_ | refine AW_exit ?_ | refine AW_skip ?_ | unfold retQ); try simp only [push_cast, seval, *])
    | ((first | (apply AW_cond; (case hc => (simp only [push_cast, seval]; rfl))) | (apply ER_guard; (case hb => (simp only [push_cast, seval]; rfl)))); all_goals ((intro hc; first | (exfalso; simp only [push_cast, seval, *] at hc; done) | (exact absurd hc (by decide)) | ((try first | rw [Bool.not_true] at hc | rw [Bool.not_false] at hc); first | (with_reducible replace hc := tTT hc); clear hc | (with_reducible replace hc := tFF hc); clear hc | (have hp := hc; try simp only [decide_eq_true_eq, decide_eq_false_iff_not, bA, bB, bC, bD, bE, bF, bG, bH] at hp))) <;> try simp only [push_cast, seval, *]))
    | (refine Kn.go hK ?_; clear hK K)
    | refine Kn.go (by assumption) ?_
    | (intro n hn; (try simp only [upd_none2, join_none_iff, ite_none, ne_eq] at hn); (try simp only [push_cast, seval, *]))
    | (intro hc)
    | (apply ER_blk; (case hp => rfl); (case hb => (simp only [push_cast, seval]; rfl)); (case hd => (simp only [push_cast, seval]; done)); (case h => (intro hc; simp only [push_cast, seval, *]; rfl)); simp only [push_cast, seval, *])
    | fail)
          refine ⟨(some ⟨s, at_, vn⟩, mput ⟨s, at_, vn⟩ (.bool true) (.c (.bool true)) ck lo, mclk ⟨s, at_, vn⟩ lo ck), ⟨unhid hset2, unhid hinv, unhid hnx⟩, by (first | trivial | (simp only [push_cast, seval, *]; done)), ?_⟩
          first
            | rfl
            | ((repeat' (first | exact Heap.le_refl _ | refine hle_upd2 ?_ _ _ | (refine Heap.le_new ?_ ?_; rotate_left 1; focus (first | assumption | (simp only [upd_none2, upd_get, ne_eq, push_cast, seval, *]; done) | (simp [upd_get, *]; done))))); all_goals rfl)
        · have hC2 : 0 ≤ C := by omega
          rw [decide_eq_false hC, Bool.false_and] at hinv
          have hEv := unhid hE
          rw [← unhid hRN, if_pos hinv] at hEv
          subst hEv
          clear hinv hE
          repeat' (first
    | refine AW_seq_kn fun K hK => ?_
    | refine AW_block ?_
    | (refine does_call rfl rfl ?_; simp only [push_cast, seval, *]; refine ACall.monoP (hcm _) ?_; (try simp only [push_cast, seval, *]))
    | (refine does_call rfl rfl ?_; simp only [push_cast, seval, *]; refine ACall.monoP (Compare_p ⟨_, _, _⟩ ⟨_, _, _⟩ _) ?_; (try simp only [push_cast, seval, *]))
    | ((first
      | refine AW_region_draw (id := 10) E0 (fun f => [].contains f) dLM0 dAM0 mixed (by kernel_rfl) ?_
      | refine AW_region_draw (id := 25) E0 (fun f => [].contains f) dLM1 dAM1 mixed (by kernel_rfl) ?_
      | refine AW_region_draw (id := 27) E0 (fun f => [].contains f) dLM2 dAM2 mixed (by kernel_rfl) ?_
      | refine AW_region E0 ?_ | refine AW_ret ?_ | refine AW_exit ?_ | refine AW_skip ?_ | unfold retQ); try simp only [push_cast, seval, *])
    | ((first | (apply AW_cond; (case hc => (simp only [push_cast, seval]; rfl))) | (apply ER_guard; (case hb => (simp only [push_cast, seval]; rfl)))); all_goals ((intro hc; first | (exfalso; simp only [push_cast, seval, *] at hc; done) | (exact absurd hc (by decide)) | ((try first | rw [Bool.not_true] at hc | rw [Bool.not_false] at hc); first | (with_reducible replace hc := tTT hc); clear hc | (with_reducible replace hc := tFF hc); clear hc | (have hp := hc; try simp only [decide_eq_true_eq, decide_eq_false_iff_not, bA, bB, bC, bD, bE, bF, bG, bH] at hp))) <;> try simp only [push_cast, seval, *]))
    | (refine Kn.go hK ?_; clear hK K)
    | refine Kn.go (by assumption) ?_
    | (intro n hn; (try simp only [upd_none2, join_none_iff, ite_none, ne_eq] at hn); (try simp only [push_cast, seval, *]))
    | (intro hc)
    | (apply ER_blk; (case hp => rfl); (case hb => (simp only [push_cast, seval]; rfl)); (case hd => (simp only [push_cast, seval]; done)); (case h => (intro hc; simp only [push_cast, seval, *]; rfl)); simp only [push_cast, seval, *])
    | fail)
          exact ⟨_, A, Weak.less (by repeat' (first | exact unhid hMle _ _ | refine le_skip ?_ (by first | exact hn.2.2 | exact hAe | exact hd))), rfl, unhid hbad (by decide) _⟩
    · rintro ⟨p, lo2, ck2⟩ ⟨hset2, hinv, -⟩
      simp only [List.drop_length, riseN, List.take_length] at hset2 hinv
      have hEv := unhid hE
      rw [← unhid hRN, hinv, if_neg (by decide)] at hEv
      clear hinv hRN hE
      obtain ⟨D2, hD2⟩ : ∃ D2, D2 = bm kN lo2 ck2 M0 := ⟨_, rfl⟩
      rw [← hD2]
      replace hset2 := Lib.hid hset2
      replace hD2 := Lib.hid hD2
      replace hEv := Lib.hid hEv
      repeat' (first
    | refine AW_seq_kn fun K hK => ?_
    | refine AW_block ?_
    | (refine does_call rfl rfl ?_; simp only [push_cast, seval, *]; refine ACall.monoP (Compare_p ⟨_, _, _⟩ ⟨_, _, _⟩ _) ?_; (try simp only [push_cast, seval, *]))
    | ((first
      | refine AW_region_draw (id := 10) E0 (fun f => [].contains f) dLM0 dAM0 mixed (by kernel_rfl) ?_
      | refine AW_region_draw (id := 25) E0 (fun f => [].contains f) dLM1 dAM1 mixed (by kernel_rfl) ?_
      | refine AW_region_draw (id := 27) E0 (fun f => [].contains f) dLM2 dAM2 mixed (by kernel_rfl) ?_
      | refine AW_region E0 ?_ | refine AW_ret ?_ | refine AW_exit ?_ | refine AW_skip ?_ | unfold retQ); try simp only [push_cast, seval, *])
    | ((first | (apply AW_cond; (case hc => (simp only [push_cast, seval]; rfl))) | (apply ER_guard; (case hb => (simp only [push_cast, seval]; rfl)))); all_goals ((intro hc; first | (exfalso; simp only [push_cast, seval, *] at hc; done) | (exact absurd hc (by decide)) | ((try first | rw [Bool.not_true] at hc | rw [Bool.not_false] at hc); first | (with_reducible replace hc := tTT hc); clear hc | (with_reducible replace hc := tFF hc); clear hc | (have hp := hc; try simp only [decide_eq_true_eq, decide_eq_false_iff_not, bA, bB, bC, bD, bE, bF, bG, bH] at hp))) <;> try simp only [push_cast, seval, *]))
    | (refine Kn.go hK ?_; clear hK K)
    | refine Kn.go (by assumption) ?_
    | (intro n hn; (try simp only [upd_none2, join_none_iff, ite_none, ne_eq] at hn); (try simp only [push_cast, seval, *]))
    | (intro hc)
    | (apply ER_blk; (case hp => rfl); (case hb => (simp only [push_cast, seval]; rfl)); (case hd => (simp only [push_cast, seval]; done)); (case h => (intro hc; simp only [push_cast, seval, *]; rfl)); simp only [push_cast, seval, *])
    | fail)
      obtain ⟨FE, hFE⟩ : ∃ FE, FE = firstE ⟨a, b, c⟩ names names := ⟨_, rfl⟩
      replace hFE := Lib.hid hFE
      refine AW_loopN names.length (fun k => FE = firstE ⟨a, b, c⟩ names (names.drop k)) (fun k => [(0, .p nb 3 0 0), (1, .q [.l 3 (names.map Nm.av)] 0), (4, .c (.map (some d))), (5, .c (.map (some e))), (53, .l 3 (names.map Nm.av)), (54, ci names.length), (55, ci k)]) (fun _ => upd (upd A d D) e D2) (by rw [List.drop_zero]; exact unhid hFE) ?_ ?_ ?_ ?_
      · (first | trivial | (simp only [push_cast, seval, *]; done))
      · exact Heap.le_refl _
      · intro k hk hinv
        have hv := List.getElem?_eq_getElem (l := names) hk; generalize names[k] = v at hv; have hvm := List.mem_of_getElem? hv; have hkl : (k : Int) < names.length := (by omega); have hkw : IntKind.i64.wrap ((k : Int) + 1) = (k : Int) + 1 := wrap_i64 (by omega) (by omega)
        rw [drop_get hv, firstE] at hinv
        have hst : ∀ M, Heap.le (upd (upd A d D) e D2) M → ACall Try.prog 77 [.p nb 3 0 0, .g (Nm.av v), .c (.map (some e))] M fun r H' => r = .c (.int .i64 (stopsE a v names)) ∧ H' = M := fun M hM =>
          stops_a a (by omega) (unhid hrise) v names lo2 ck2 (unhid hset2) x1 x2 x3 M nb e (hM _ _ (unhid kbM _ _)) (by rw [← unhid hD2]; exact hM _ _ (upd_same _ _ _)) ((unhid e1).mono (Heap.le_trans (unhid hMle _ _) hM)) ((unhid hop1).mono (Heap.le_trans (unhid hMle _ _) hM))
        have hmw1 := (unhid hset1).mw
        have hlk1 := (unhid hset1).v v
        have hmem : ∀ Q R : Int, (if v ∈ (⟨a, b, c⟩ : Lg).done then Q else R) = if decide (v ∈ b) = true then Q else R := fun Q R => by simp
        rw [hmem] at hinv
        clear hmem
        obtain ⟨B, hB⟩ : ∃ B, B = decide (v ∈ b) := ⟨_, rfl⟩
        rw [← hB] at hinv hlk1
        simp only at hinv
        obtain ⟨S, hS⟩ : ∃ S, S = stopsE a v names := ⟨_, rfl⟩
        rw [← hS] at hinv hst
        obtain ⟨s, at_, vn⟩ := v
        have hnv : Nm.av ⟨s, at_, vn⟩ = [.c (.int .i64 s), .c (.int .i64 at_), .c (.int .i64 vn)] := rfl
        have hIs : IsK (.g [.c (.int .i64 s), .c (.int .i64 at_), .c (.int .i64 vn)]) (kN ⟨s, at_, vn⟩) := IsK.g (u3 ⟨s, at_, vn⟩)
        simp only [hnv] at hst
        replace hIs := Lib.hid hIs
        replace hst := Lib.hid hst
        replace hmw1 := Lib.hid hmw1
        replace hlk1 := Lib.hid hlk1
        clear hB hS hvm
        cases B
        rotate_left
        · rw [if_pos rfl] at hinv
          replace hinv := Lib.hid hinv
          repeat' (first
    | refine AW_seq_kn fun K hK => ?_
    | refine AW_block ?_
    | (refine does_lookupV (enc := kN) (n := d) (l := lo1) (c := ck1) (M := M0) (k := ⟨s, at_, vn⟩) (z := .bool false) (zA := .c (.bool false)) kkN rfl (by simp only [push_cast, seval, *]) (by simp only [push_cast, seval, upd_get, *]; first | rfl | (rw [unhid hD])) (unhid hmw1) hEU zero_bool (fun _ => .c _) (by simp only [push_cast, seval, *]; exact unhid hIs) (unhid hlk1) ?_; (try simp only [push_cast, seval, *]))
    | (refine does_call rfl rfl ?_; simp only [push_cast, seval, *]; refine ACall.monoP (Compare_p ⟨_, _, _⟩ ⟨_, _, _⟩ _) ?_; (try simp only [push_cast, seval, *]))
    | ((first
      | refine AW_region_draw (id := 10) E0 (fun f => [].contains f) dLM0 dAM0 mixed (by kernel_rfl) ?_
      | refine AW_region_draw (id := 25) E0 (fun f => [].contains f) dLM1 dAM1 mixed (by kernel_rfl) ?_
      | refine AW_region_draw (id := 27) E0 (fun f => [].contains f) dLM2 dAM2 mixed (by kernel_rfl) ?_
      | refine AW_region E0 ?_ | refine AW_ret ?_ | refine AW_exit ?_ | refine AW_skip ?_ | unfold retQ); try simp only [push_cast, seval, *])
    | ((first | (apply AW_cond; (case hc => (simp only [push_cast, seval]; rfl))) | (apply ER_guard; (case hb => (simp only [push_cast, seval]; rfl)))); all_goals ((intro hc; first | (exfalso; simp only [push_cast, seval, *] at hc; done) | (exact absurd hc (by decide)) | ((try first | rw [Bool.not_true] at hc | rw [Bool.not_false] at hc); first | (with_reducible replace hc := tTT hc); clear hc | (with_reducible replace hc := tFF hc); clear hc | (have hp := hc; try simp only [decide_eq_true_eq, decide_eq_false_iff_not, bA, bB, bC, bD, bE, bF, bG, bH] at hp))) <;> try simp only [push_cast, seval, *]))
    | (refine Kn.go hK ?_; clear hK K)
    | refine Kn.go (by assumption) ?_
    | (intro n hn; (try simp only [upd_none2, join_none_iff, ite_none, ne_eq] at hn); (try simp only [push_cast, seval, *]))
    | (intro hc)
    | (apply ER_blk; (case hp => rfl); (case hb => (simp only [push_cast, seval]; rfl)); (case hd => (simp only [push_cast, seval]; done)); (case h => (intro hc; simp only [push_cast, seval, *]; rfl)); simp only [push_cast, seval, *])
    | fail)
          exact ⟨unhid hinv, by (first | trivial | (simp only [push_cast, seval, *]; done)), by first | trivial | (repeat' (first | exact Heap.le_refl _ | refine hle_upd2 ?_ _ _ | (refine Heap.le_new ?_ ?_; rotate_left 1; focus (first | assumption | (simp only [upd_none2, upd_get, ne_eq, push_cast, seval, *]; done) | (simp [upd_get, *]; done)))))⟩
        rw [if_neg (by decide)] at hinv
        by_cases hS0 : S = 0
        · rw [if_pos hS0] at hinv
          replace hinv := Lib.hid hinv
          repeat' (first
    | refine AW_seq_kn fun K hK => ?_
    | refine AW_block ?_
    | (refine does_lookupV (enc := kN) (n := d) (l := lo1) (c := ck1) (M := M0) (k := ⟨s, at_, vn⟩) (z := .bool false) (zA := .c (.bool false)) kkN rfl (by simp only [push_cast, seval, *]) (by simp only [push_cast, seval, upd_get, *]; first | rfl | (rw [unhid hD])) (unhid hmw1) hEU zero_bool (fun _ => .c _) (by simp only [push_cast, seval, *]; exact unhid hIs) (unhid hlk1) ?_; (try simp only [push_cast, seval, *]))
    | (refine does_call rfl rfl ?_; simp only [push_cast, seval, *]; refine ACall.mono (unhid hst _ (le_upd_new (by rw [upd_ne hn.1.1, upd_ne hn.2.1.1]; exact hn.2.2))) ?_; (rintro _ _ ⟨rfl, e2⟩; have e3 := e2.symm; clear e2; subst e3); (try simp only [push_cast, seval, *]))
    | (refine does_call rfl rfl ?_; simp only [push_cast, seval, *]; refine ACall.monoP (Compare_p ⟨_, _, _⟩ ⟨_, _, _⟩ _) ?_; (try simp only [push_cast, seval, *]))
    | ((first
      | refine AW_region_draw (id := 10) E0 (fun f => [].contains f) dLM0 dAM0 mixed (by kernel_rfl) ?_
      | refine AW_region_draw (id := 25) E0 (fun f => [].contains f) dLM1 dAM1 mixed (by kernel_rfl) ?_
      | refine AW_region_draw (id := 27) E0 (fun f => [].contains f) dLM2 dAM2 mixed (by kernel_rfl) ?_
      | refine AW_region E0 ?_ | refine AW_ret ?_ | refine AW_exit ?_ | refine AW_skip ?_ | unfold retQ); try simp only [push_cast, seval, *])
    | ((first | (apply AW_cond; (case hc => (simp only [push_cast, seval]; rfl))) | (apply ER_guard; (case hb => (simp only [push_cast, seval]; rfl)))); all_goals ((intro hc; first | (exfalso; simp only [push_cast, seval, *] at hc; done) | (exact absurd hc (by decide)) | ((try first | rw [Bool.not_true] at hc | rw [Bool.not_false] at hc); first | (with_reducible replace hc := tTT hc); clear hc | (with_reducible replace hc := tFF hc); clear hc | (have hp := hc; try simp only [decide_eq_true_eq, decide_eq_false_iff_not, bA, bB, bC, bD, bE, bF, bG, bH] at hp))) <;> try simp only [push_cast, seval, *]))
    | (refine Kn.go hK ?_; clear hK K)
    | refine Kn.go (by assumption) ?_
    | (intro n hn; (try simp only [upd_none2, join_none_iff, ite_none, ne_eq] at hn); (try simp only [push_cast, seval, *]))
    | (intro hc)
    | (apply ER_blk; (case hp => rfl); (case hb => (simp only [push_cast, seval]; rfl)); (case hd => (simp only [push_cast, seval]; done)); (case h => (intro hc; simp only [push_cast, seval, *]; rfl)); simp only [push_cast, seval, *])
    | fail)
          exact ⟨unhid hinv, by (first | trivial | (simp only [push_cast, seval, *]; done)), by first | trivial | (repeat' (first | exact Heap.le_refl _ | refine hle_upd2 ?_ _ _ | (refine Heap.le_new ?_ ?_; rotate_left 1; focus (first | assumption | (simp only [upd_none2, upd_get, ne_eq, push_cast, seval, *]; done) | (simp [upd_get, *]; done)))))⟩
        · rw [if_neg hS0] at hinv
          have hEw := unhid hEv
          rw [← unhid hFE, hinv, if_pos hS0] at hEw
          have hS1 : decide (S = 0) = false := decide_eq_false hS0
          clear hinv hEv hFE
          replace hEw := Lib.hid hEw
          repeat' (first
    | refine AW_seq_kn fun K hK => ?_
    | refine AW_block ?_
    | (refine does_lookupV (enc := kN) (n := d) (l := lo1) (c := ck1) (M := M0) (k := ⟨s, at_, vn⟩) (z := .bool false) (zA := .c (.bool false)) kkN rfl (by simp only [push_cast, seval, *]) (by simp only [push_cast, seval, upd_get, *]; first | rfl | (rw [unhid hD])) (unhid hmw1) hEU zero_bool (fun _ => .c _) (by simp only [push_cast, seval, *]; exact unhid hIs) (unhid hlk1) ?_; (try simp only [push_cast, seval, *]))
    | (refine does_call rfl rfl ?_; simp only [push_cast, seval, *]; refine ACall.mono (unhid hst _ (le_upd_new (by rw [upd_ne hn.1.1, upd_ne hn.2.1.1]; exact hn.2.2))) ?_; (rintro _ _ ⟨rfl, e2⟩; have e3 := e2.symm; clear e2; subst e3); (try simp only [push_cast, seval, *]))
    | (refine does_call rfl rfl ?_; simp only [push_cast, seval, *]; refine ACall.monoP (Compare_p ⟨_, _, _⟩ ⟨_, _, _⟩ _) ?_; (try simp only [push_cast, seval, *]))
    | ((first
      | refine AW_region_draw (id := 10) E0 (fun f => [].contains f) dLM0 dAM0 mixed (by kernel_rfl) ?_
      | refine AW_region_draw (id := 25) E0 (fun f => [].contains f) dLM1 dAM1 mixed (by kernel_rfl) ?_
      | refine AW_region_draw (id := 27) E0 (fun f => [].contains f) dLM2 dAM2 mixed (by kernel_rfl) ?_
      | refine AW_region E0 ?_ | refine AW_ret ?_ | refine AW_exit ?_ | refine AW_skip ?_ | unfold retQ); try simp only [push_cast, seval, *])
    | ((first | (apply AW_cond; (case hc => (simp only [push_cast, seval]; rfl))) | (apply ER_guard; (case hb => (simp only [push_cast, seval]; rfl)))); all_goals ((intro hc; first | (exfalso; simp only [push_cast, seval, *] at hc; done) | (exact absurd hc (by decide)) | ((try first | rw [Bool.not_true] at hc | rw [Bool.not_false] at hc); first | (with_reducible replace hc := tTT hc); clear hc | (with_reducible replace hc := tFF hc); clear hc | (have hp := hc; try simp only [decide_eq_true_eq, decide_eq_false_iff_not, bA, bB, bC, bD, bE, bF, bG, bH] at hp))) <;> try simp only [push_cast, seval, *]))
    | (refine Kn.go hK ?_; clear hK K)
    | refine Kn.go (by assumption) ?_
    | (intro n hn; (try simp only [upd_none2, join_none_iff, ite_none, ne_eq] at hn); (try simp only [push_cast, seval, *]))
    | (intro hc)
    | (apply ER_blk; (case hp => rfl); (case hb => (simp only [push_cast, seval]; rfl)); (case hd => (simp only [push_cast, seval]; done)); (case h => (intro hc; simp only [push_cast, seval, *]; rfl)); simp only [push_cast, seval, *])
    | fail)
          refine ⟨_, A, Weak.less (by repeat' (first | exact unhid hMle _ _ | refine le_skip ?_ (by first | exact hn.2.2 | exact hAe | exact hd))), by rw [unhid hEw], unhid hbad (by rw [unhid hEw]; exact hS0) _⟩
      · intro hinv
        rw [List.drop_length] at hinv
        simp only [firstE] at hinv
        have hEw := unhid hEv
        rw [← unhid hFE, hinv, if_neg (fun h => h rfl)] at hEw
        clear hEv hFE hinv hset1 hset2 hD hD2
        replace hEw := Lib.hid hEw
        repeat' (first
    | refine AW_seq_kn fun K hK => ?_
    | refine AW_block ?_
    | (refine does_call rfl rfl ?_; simp only [push_cast, seval, *]; refine ACall.monoP (Compare_p ⟨_, _, _⟩ ⟨_, _, _⟩ _) ?_; (try simp only [push_cast, seval, *]))
    | ((first
      | refine AW_region_draw (id := 10) E0 (fun f => [].contains f) dLM0 dAM0 mixed (by kernel_rfl) ?_
      | refine AW_region_draw (id := 25) E0 (fun f => [].contains f) dLM1 dAM1 mixed (by kernel_rfl) ?_
      | refine AW_region_draw (id := 27) E0 (fun f => [].contains f) dLM2 dAM2 mixed (by kernel_rfl) ?_
      | refine AW_region E0 ?_ | refine AW_ret ?_ | refine AW_exit ?_ | refine AW_skip ?_ | unfold retQ); try simp only [push_cast, seval, *])
    | ((first | (apply AW_cond; (case hc => (simp only [push_cast, seval]; rfl))) | (apply ER_guard; (case hb => (simp only [push_cast, seval]; rfl)))); all_goals ((intro hc; first | (exfalso; simp only [push_cast, seval, *] at hc; done) | (exact absurd hc (by decide)) | ((try first | rw [Bool.not_true] at hc | rw [Bool.not_false] at hc); first | (with_reducible replace hc := tTT hc); clear hc | (with_reducible replace hc := tFF hc); clear hc | (have hp := hc; try simp only [decide_eq_true_eq, decide_eq_false_iff_not, bA, bB, bC, bD, bE, bF, bG, bH] at hp))) <;> try simp only [push_cast, seval, *]))
    | (refine Kn.go hK ?_; clear hK K)
    | refine Kn.go (by assumption) ?_
    | (intro n hn; (try simp only [upd_none2, join_none_iff, ite_none, ne_eq] at hn); (try simp only [push_cast, seval, *]))
    | (intro hc)
    | (apply ER_blk; (case hp => rfl); (case hb => (simp only [push_cast, seval]; rfl)); (case hd => (simp only [push_cast, seval]; done)); (case h => (intro hc; simp only [push_cast, seval, *]; rfl)); simp only [push_cast, seval, *])
    | fail)
        refine AW_loopX (σ := AV × AV × AV × Lg × Heap) names.length (fun k s => OwnG s.1 s.2.1 s.2.2.1 s.2.2.2.1 s.2.2.2.2 (upd G nb (bxL s.1 s.2.1 s.2.2.1)) ∧ Inv16 s.2.2.2.1 ∧ N = commitL s.2.2.2.1 (names.drop k)) (fun k s => [(0, .p nb 3 0 0), (70, .l 3 (names.map Nm.av)), (71, ci names.length), (72, ci k)]) (fun _ s => s.2.2.2.2) (x1, x2, x3, ⟨a, b, c⟩, A) ⟨unhid h, unhid hinv0, by rw [List.drop_zero]; exact unhid hN⟩ ?_ ?_ ?_ ?_
        · (first | trivial | (simp only [push_cast, seval, *]; done))
        · exact unhid hMle _ _
        · clear cs1 cs2 cs3 os1 os2 os3 w1 w2 w3 hbad hop1 e1 hb5 hrise hinv0 hN h kbM hMle kb ob hb1 hb2 hb3
          rintro k ⟨y1, y2, y3, l, Hs⟩ hk ⟨ho, hiv, hN2⟩
          simp only at ho hiv hN2
          have hv := List.getElem?_eq_getElem (l := names) hk; generalize names[k] = v at hv; have hvm := List.mem_of_getElem? hv; have hkl : (k : Int) < names.length := (by omega); have hkw : IntKind.i64.wrap ((k : Int) + 1) = (k : Int) + 1 := wrap_i64 (by omega) (by omega)
          rw [drop_get hv] at hN2
          replace hN2 : N = commitL (com1 l v) (names.drop (k + 1)) := hN2
          have hiv2 := hiv.com v
          have kbs := (OwnG_loc _ _ _ _).get ho (upd_same _ _ _)
          have obs := ne_old kbs
          obtain ⟨l1, -, -⟩ := OwnG_lents ho
          have hll := hiv.len
          have hat := fun M (hM : Heap.le Hs M) => at_l (A := M) (by omega) hiv.rise v (l1.mono hM)
          have hcom : com1 l v = if atB l.txs v = true then ⟨l.txs.take (atI l.txs v) ++ l.txs.drop (atI l.txs v + 1), l.done ++ [v], l.log ++ (txAt l.txs v).rs⟩ else l := rfl
          have htr := fun h => at_true (l := l.txs) (v := v) h
          unfold txAt at hcom
          obtain ⟨l', hl'⟩ : ∃ l', l' = com1 l v := ⟨_, rfl⟩
          rw [← hl'] at hcom hN2 hiv2
          generalize atI l.txs v = i at *
          generalize atB l.txs v = B at *
          have hszl := hiv.size
          obtain ⟨s, at_, vn⟩ := v
          have hnv : Nm.av ⟨s, at_, vn⟩ = [.c (.int .i64 s), .c (.int .i64 at_), .c (.int .i64 vn)] := rfl
          simp only [hnv] at hat
          replace hN2 := Lib.hid hN2
          replace hiv2 := Lib.hid hiv2
          replace hat := Lib.hid hat
          clear hl' hvm l1
          cases B
          · rw [if_neg (by decide)] at hcom
            subst hcom
            replace ho := Lib.hid ho
            clear htr hiv
            repeat' (first
    | refine AW_seq_kn fun K hK => ?_
    | refine AW_block ?_
    | (refine does_call rfl rfl ?_; simp only [push_cast, seval, *]; refine ACall.monoP (unhid hat _ (le_upd_new hn)) ?_; (try simp only [push_cast, seval, *]))
    | (refine does_call rfl rfl ?_; simp only [push_cast, seval, *]; refine ACall.monoP (Compare_p ⟨_, _, _⟩ ⟨_, _, _⟩ _) ?_; (try simp only [push_cast, seval, *]))
    | ((first
      | refine AW_region_draw (id := 10) E0 (fun f => [].contains f) dLM0 dAM0 mixed (by kernel_rfl) ?_
      | refine AW_region_draw (id := 25) E0 (fun f => [].contains f) dLM1 dAM1 mixed (by kernel_rfl) ?_
      | refine AW_region_draw (id := 27) E0 (fun f => [].contains f) dLM2 dAM2 mixed (by kernel_rfl) ?_
      | refine AW_region E0 ?_ | refine AW_ret ?_ | refine AW_exit ?_ | refine AW_skip ?_ | unfold retQ); try simp only [push_cast, seval, *])
    | ((first | (apply AW_cond; (case hc => (simp only [push_cast, seval]; rfl))) | (apply ER_guard; (case hb => (simp only [push_cast, seval]; rfl)))); all_goals ((intro hc; first | (exfalso; simp only [push_cast, seval, *] at hc; done) | (exact absurd hc (by decide)) | ((try first | rw [Bool.not_true] at hc | rw [Bool.not_false] at hc); first | (with_reducible replace hc := tTT hc); clear hc | (with_reducible replace hc := tFF hc); clear hc | (have hp := hc; try simp only [decide_eq_true_eq, decide_eq_false_iff_not, bA, bB, bC, bD, bE, bF, bG, bH] at hp))) <;> try simp only [push_cast, seval, *]))
    | (refine Kn.go hK ?_; clear hK K)
    | refine Kn.go (by assumption) ?_
    | (intro n hn; (try simp only [upd_none2, join_none_iff, ite_none, ne_eq] at hn); (try simp only [push_cast, seval, *]))
    | (intro hc)
    | (apply ER_blk; (case hp => rfl); (case hb => (simp only [push_cast, seval]; rfl)); (case hd => (simp only [push_cast, seval]; done)); (case h => (intro hc; simp only [push_cast, seval, *]; rfl)); simp only [push_cast, seval, *])
    | fail)
            exact ⟨(y1, y2, y3, l', Hs), ⟨unhid ho, unhid hiv2, unhid hN2⟩, by (first | trivial | (simp only [push_cast, seval, *]; done)), by first | trivial | (repeat' (first | exact Heap.le_refl _ | refine hle_upd2 ?_ _ _ | (refine Heap.le_new ?_ ?_; rotate_left 1; focus (first | assumption | (simp only [upd_none2, upd_get, ne_eq, push_cast, seval, *]; done) | (simp [upd_get, *]; done)))))⟩
          rw [if_pos rfl] at hcom
          obtain ⟨t, ht, -⟩ := htr rfl
          rw [ht] at hcom
          simp only [Option.getD_some] at hcom
          clear htr
          repeat' (first
    | refine AW_seq_kn fun K hK => ?_
    | refine AW_block ?_
    | (refine does_call rfl rfl ?_; simp only [push_cast, seval, *]; refine ACall.monoP (Compare_p ⟨_, _, _⟩ ⟨_, _, _⟩ _) ?_; (try simp only [push_cast, seval, *]))
    | ((first
      | refine AW_region_draw (id := 10) E0 (fun f => [].contains f) dLM0 dAM0 mixed (by kernel_rfl) ?_
      | refine AW_region_draw (id := 25) E0 (fun f => [].contains f) dLM1 dAM1 mixed (by kernel_rfl) ?_
      | refine AW_region_draw (id := 27) E0 (fun f => [].contains f) dLM2 dAM2 mixed (by kernel_rfl) ?_
      | refine AW_region E0 ?_ | refine AW_ret ?_ | refine AW_exit ?_ | refine AW_skip ?_ | unfold retQ); try simp only [push_cast, seval, *])
    | ((first | (apply AW_cond; (case hc => (simp only [push_cast, seval]; rfl))) | (apply ER_guard; (case hb => (simp only [push_cast, seval]; rfl)))); all_goals ((intro hc; first | (exfalso; simp only [push_cast, seval, *] at hc; done) | (exact absurd hc (by decide)) | ((try first | rw [Bool.not_true] at hc | rw [Bool.not_false] at hc); first | (with_reducible replace hc := tTT hc); clear hc | (with_reducible replace hc := tFF hc); clear hc | (have hp := hc; try simp only [decide_eq_true_eq, decide_eq_false_iff_not, bA, bB, bC, bD, bE, bF, bG, bH] at hp))) <;> try simp only [push_cast, seval, *]))
    | (refine Kn.go hK ?_; clear hK K)
    | refine Kn.go (by assumption) ?_
    | (intro n hn; (try simp only [upd_none2, join_none_iff, ite_none, ne_eq] at hn); (try simp only [push_cast, seval, *]))
    | (intro hc)
    | (apply ER_blk; (case hp => rfl); (case hb => (simp only [push_cast, seval]; rfl)); (case hd => (simp only [push_cast, seval]; done)); (case h => (intro hc; simp only [push_cast, seval, *]; rfl)); simp only [push_cast, seval, *])
    | fail)
          generalize n = n14 at *
          have hoM := (OwnG_loc y1 y2 y3 l).new ho hn (.r 26 3 1 [[.c (.int .i64 s), .c (.int .i64 at_), .c (.int .i64 vn)]])
          obtain ⟨np, cap, L, y, Q1, Q2, Q3, rfl, o3, o2, o1, hnp, hLl, hLi, hRi, hch, hly⟩ := OwnG_open hoM ht
          have gn14 := (OwnG_loc _ _ _ _).old ho hn
          have nb14 : ¬ nb = n14 := by rintro rfl; rw [kbs] at hn; cases hn
          have n14b : ¬ n14 = nb := fun h => nb14 h.symm
          have q4 : (upd (upd G nb (bxL (.s np 5 0 l.txs.length cap) y2 y3)) n14 (.r 26 3 1 [[.c (.int .i64 s), .c (.int .i64 at_), .c (.int .i64 vn)]])) nb = some (bxL (.s np 5 0 l.txs.length cap) y2 y3) := by rw [upd_ne nb14, upd_same]
          have j4 : Q2 np = some (.r 86 5 cap (L.map encX)) := by
            rcases o1.split with ⟨ad, hx, -, -⟩ | ⟨np', cap', hx, e, -⟩
            · cases hx
            · simp only [AV.s.injEq, true_and] at hx
              obtain ⟨rfl, -, rfl⟩ := hx
              rw [e, upd_same]
          have j1 := (Loc.own _ _ _ _).get o2 j4
          have j2 := (Loc.own _ _ _ _).get o2 ((Loc.own _ _ _ _).get o1 ((Loc.chain RX_loc _).get hch q4))
          have j3 := (Loc.own _ _ _ _).get o2 ((Loc.own _ _ _ _).get o1 ((Loc.chain RX_loc _).get hch (upd_same _ _ _)))
          have kbn := (Loc.own _ _ _ _).get o3 j2
          have k14 := (Loc.own _ _ _ _).get o3 j3
          have npb : ¬ np = nb := by rintro rfl; rw [hnp] at kbn; simp at kbn
          have nbp : ¬ nb = np := fun h => npb h.symm
          have hiI : (i : Int) < l.txs.length := by have := (List.getElem?_eq_some_iff.1 ht).1; omega
          have hRl : (L.map encX).length = l.txs.length := by rw [← hLl]; simp
          have htl : t.rs.length ≤ 400 := by
            have h1 := rec_bd (List.mem_of_getElem? ht)
            unfold sizeS at hszl; omega
          have hlg : l.log.length ≤ 400 := by unfold sizeS at hszl; omega
          have hdn : l.done.length ≤ 324 := by omega
          rw [upd_ne n14b] at gn14
          replace gn14 := Lib.hid gn14
          obtain ⟨i1', hi1⟩ : ∃ i1', i1' = i + 1 := ⟨_, rfl⟩
          have hiw : IntKind.i64.wrap ((i : Int) + 1) = (i1' : Int) := by rw [wrap_i64 (by omega) (by omega)]; omega
          replace hi1 := Lib.hid hi1
          have hat2 := unhid hat (upd Hs n14 (.r 26 3 1 [[.c (.int .i64 s), .c (.int .i64 at_), .c (.int .i64 vn)]])) (le_upd_new hn)
          obtain ⟨⟨ts, ta, tn⟩, tst, trs⟩ := t
          simp only [encX] at hRi
          simp only at hcom hly htl
          obtain ⟨R, hR⟩ : ∃ R, R = L.map encX := ⟨_, rfl⟩
          rw [← hR] at hRi hRl hnp j1 j4 o1
          have hE45 := tE45
          have hS36 := tS36
          have hB36 := tB36
          have hZ36 := tZ36
          have hE22 := tE22
          have hS26 := tS26
          have hB26 := tB26
          have hZ26 := tZ26
          generalize hMM : upd Hs n14 (.r 26 3 1 [[.c (.int .i64 s), .c (.int .i64 at_), .c (.int .i64 vn)]]) = MM at *
          clear hoM ho hiv hat hszl hMM hn kbs obs
          have hivl := hll
          replace hR := Lib.hid hR
          replace hcom := Lib.hid hcom
          replace o3 := Lib.hid o3
          replace o2 := Lib.hid o2
          replace o1 := Lib.hid o1
          replace hch := Lib.hid hch
          replace hly := Lib.hid hly
          replace j1 := Lib.hid j1
          replace j2 := Lib.hid j2
          replace j3 := Lib.hid j3
          replace j4 := Lib.hid j4
          replace q4 := Lib.hid q4
          replace hLl := Lib.hid hLl
          replace hLi := Lib.hid hLi
          clear ht
          refine does_call rfl rfl ?_
          simp only [push_cast, seval, *]
          refine ACall.monoP hat2 ?_
          (try simp only [push_cast, seval, *])
          repeat' (first
    | refine AW_seq_kn fun K hK => ?_
    | refine AW_block ?_
    | (refine does_appF rfl rfl rfl (unhid o3) (unhid hly) (rec_flat _) hE45 hS36 hB36 hZ36 rfl (by decide) (by simp only [List.length_map, maxLen]; omega) (by simp only [List.length_map]; omega) ?_; intro z H1 hz; have zcs := hz.cs; have zone := hz.one; have i1 := hz.get (unhid j1); have i2 := hz.get (unhid j2); have i3 := hz.get (unhid j3); have p1 := ne_old i1; have p2 := ne_old i2; have p3 := ne_old i3; obtain ⟨S1, g1, g2⟩ := (Loc.own _ _ _ _).swap (Loc.own _ _ _ _) hz (unhid o2); replace g1 := Lib.hid g1; replace g2 := Lib.hid g2; clear hz; (try simp only [push_cast, seval, *]))
    | (refine does_app1 rfl rfl rfl rfl (unhid g1) (by simp only [upd_none2, push_cast, seval, *]) hE22 hS26 hB26 hZ26 rfl (by decide) (by simp only [List.length_map, maxLen]; omega) (by simp only [List.length_map]; omega) ?_; intro z2 H2 hz2; have zcs2 := hz2.cs; have zone2 := hz2.one; have f0 := (Loc.own _ _ _ _).get (unhid g2) ((Loc.own _ _ _ _).get (unhid o1) ((Loc.chain RX_loc _).get (unhid hch) (unhid q4))); have f1 := hz2.get f0; clear f0; have f2 := hz2.get ((Loc.own _ _ _ _).get (unhid g2) (unhid j4)); replace hz2 := Lib.hid hz2; (try simp only [push_cast, seval, *]))
    | (refine does_call rfl rfl ?_; simp only [push_cast, seval, *]; refine ACall.monoP (Compare_p ⟨_, _, _⟩ ⟨_, _, _⟩ _) ?_; (try simp only [push_cast, seval, *]))
    | ((first
      | refine AW_region_draw (id := 10) E0 (fun f => [].contains f) dLM0 dAM0 mixed (by kernel_rfl) ?_
      | refine AW_region_draw (id := 25) E0 (fun f => [].contains f) dLM1 dAM1 mixed (by kernel_rfl) ?_
      | refine AW_region_draw (id := 27) E0 (fun f => [].contains f) dLM2 dAM2 mixed (by kernel_rfl) ?_
      | refine AW_region E0 ?_ | refine AW_ret ?_ | refine AW_exit ?_ | refine AW_skip ?_ | unfold retQ); try simp only [push_cast, seval, *])
    | ((first | (apply AW_cond; (case hc => (simp only [push_cast, seval]; rfl))) | (apply ER_guard; (case hb => (simp only [push_cast, seval]; rfl)))); all_goals ((intro hc; first | (exfalso; simp only [push_cast, seval, *] at hc; done) | (exact absurd hc (by decide)) | ((try first | rw [Bool.not_true] at hc | rw [Bool.not_false] at hc); first | (with_reducible replace hc := tTT hc); clear hc | (with_reducible replace hc := tFF hc); clear hc | (have hp := hc; try simp only [decide_eq_true_eq, decide_eq_false_iff_not, bA, bB, bC, bD, bE, bF, bG, bH] at hp))) <;> try simp only [push_cast, seval, *]))
    | (refine Kn.go hK ?_; clear hK K)
    | refine Kn.go (by assumption) ?_
    | (intro n hn; (try simp only [upd_none2, join_none_iff, ite_none, ne_eq] at hn); (try simp only [push_cast, seval, *]))
    | (intro hc)
    | (apply ER_blk; (case hp => rfl); (case hb => (simp only [push_cast, seval]; rfl)); (case hd => (simp only [push_cast, seval]; done)); (case h => (intro hc; simp only [push_cast, seval, *]; rfl)); simp only [push_cast, seval, *])
    | fail)
          obtain ⟨b1, hb1⟩ : ∃ b1, b1 = bxL (.s np 5 0 l.txs.length cap) z2 z := ⟨_, rfl⟩
          have q3 := (Loc.chain RX_loc _).get (unhid hch) (unhid q4)
          have q2 := (Loc.own _ _ _ _).get (unhid o1) q3
          have s1 := (Loc.own _ _ _ _).get (unhid g2) q2
          have t1 := (unhid hz2).turn s1 b1
          have t2 := (unhid g2).turn q2 b1
          have t3 := (unhid o1).turn q3 b1
          have t4 := (Loc.chain RX_loc _).turn (unhid hch) (unhid q4) b1
          obtain ⟨U1, a1, a2⟩ := (Loc.own _ _ _ _).swap (Loc.own _ _ _ _) t2 t3
          obtain ⟨U2, a3, a4⟩ := (Loc.own _ _ _ _).swap (Loc.own _ _ _ _) t1 a1
          have w1 := (Loc.own _ _ _ _).get a2 (upd_same _ _ _)
          have w2 := (Loc.own _ _ _ _).get a4 w1
          rw [hb1] at a3 w2
          clear q3 q2 s1 t1 t2 t3 a1 g1 g2 hz2
          replace hb1 := Lib.hid hb1
          replace t4 := Lib.hid t4
          replace a2 := Lib.hid a2
          replace a3 := Lib.hid a3
          replace a4 := Lib.hid a4
          replace w1 := Lib.hid w1
          replace w2 := Lib.hid w2
          refine does_call rfl rfl ?_
          simp only [push_cast, seval, *]
          refine ACall.mono (tdel_o (i := i) (j := i1') (unhid a3) (by have := unhid hi1; omega) (by have := unhid hi1; omega)) ?_
          intro r H3 hr
          have rcs := hr.cs
          have rone := hr.one
          have h3b := hr.get (unhid w2)
          replace hr := Lib.hid hr
          (try simp only [push_cast, seval, *])
          repeat' (first
    | refine AW_seq_kn fun K hK => ?_
    | refine AW_block ?_
    | (refine does_call rfl rfl ?_; simp only [push_cast, seval, *]; refine ACall.monoP (Compare_p ⟨_, _, _⟩ ⟨_, _, _⟩ _) ?_; (try simp only [push_cast, seval, *]))
    | ((first
      | refine AW_region_draw (id := 10) E0 (fun f => [].contains f) dLM0 dAM0 mixed (by kernel_rfl) ?_
      | refine AW_region_draw (id := 25) E0 (fun f => [].contains f) dLM1 dAM1 mixed (by kernel_rfl) ?_
      | refine AW_region_draw (id := 27) E0 (fun f => [].contains f) dLM2 dAM2 mixed (by kernel_rfl) ?_
      | refine AW_region E0 ?_ | refine AW_ret ?_ | refine AW_exit ?_ | refine AW_skip ?_ | unfold retQ); try simp only [push_cast, seval, *])
    | ((first | (apply AW_cond; (case hc => (simp only [push_cast, seval]; rfl))) | (apply ER_guard; (case hb => (simp only [push_cast, seval]; rfl)))); all_goals ((intro hc; first | (exfalso; simp only [push_cast, seval, *] at hc; done) | (exact absurd hc (by decide)) | ((try first | rw [Bool.not_true] at hc | rw [Bool.not_false] at hc); first | (with_reducible replace hc := tTT hc); clear hc | (with_reducible replace hc := tFF hc); clear hc | (have hp := hc; try simp only [decide_eq_true_eq, decide_eq_false_iff_not, bA, bB, bC, bD, bE, bF, bG, bH] at hp))) <;> try simp only [push_cast, seval, *]))
    | (refine Kn.go hK ?_; clear hK K)
    | refine Kn.go (by assumption) ?_
    | (intro n hn; (try simp only [upd_none2, join_none_iff, ite_none, ne_eq] at hn); (try simp only [push_cast, seval, *]))
    | (intro hc)
    | (apply ER_blk; (case hp => rfl); (case hb => (simp only [push_cast, seval]; rfl)); (case hd => (simp only [push_cast, seval]; done)); (case h => (intro hc; simp only [push_cast, seval, *]; rfl)); simp only [push_cast, seval, *])
    | fail)
          have x1' := (unhid hr).turn (unhid w2) (bxL r z2 z)
          have x2' := (unhid a4).turn (unhid w1) (bxL r z2 z)
          have x3' := (unhid a2).turn (upd_same _ _ _) (bxL r z2 z)
          have x4' := (Loc.chain RX_loc _).turn (unhid t4) (upd_same _ _ _) (bxL r z2 z)
          rw [unhid hi1, unhid hR, erase_rows] at x1'
          rw [← List.map_append] at x3'
          have e2 : l.done.map Nm.av ++ [[.c (.int .i64 s), .c (.int .i64 at_), .c (.int .i64 vn)]] = (l.done ++ [(⟨s, at_, vn⟩ : Nm)]).map Nm.av := by rw [List.map_append]; rfl
          rw [e2] at x2'
          obtain ⟨H4, k1, k2⟩ := OwnG_shut (K := upd G nb (bxL r z2 z)) x1' x2' x3' x4' (unhid hLi) (by
            intro q c hq
            by_cases c1 : q = nb
            · subst c1; rw [upd_same] at hq ⊢; exact hq
            · rw [upd_ne c1] at hq ⊢
              have c2 : q ≠ n14 := by rintro rfl; rw [unhid gn14] at hq; cases hq
              rw [upd_ne c1, upd_ne c2, upd_ne c1]; exact hq)
          rw [erase_snd (unhid hLl)] at k2
          have k3 := unhid hcom
          refine ⟨(r, z2, z, l', H4), ⟨?_, unhid hiv2, unhid hN2⟩, by (first | trivial | (simp only [push_cast, seval, *]; done)), k1⟩
          rw [k3]; exact k2
        · rintro ⟨y1, y2, y3, l, Hs⟩ ⟨ho, hiv, hN2⟩
          simp only [List.drop_length] at ho hiv hN2
          replace hN2 : N = l := hN2
          subst hN2
          have kbs := (OwnG_loc _ _ _ _).get ho (upd_same _ _ _)
          have hle : Heap.le G Hs := Heap.le_trans (le_upd_new hnb) ((OwnG_loc _ _ _ _).le ho)
          obtain ⟨-, w2, -⟩ := OwnG_len ho
          have hEv := unhid hEw
          clear hiv cs1 cs2 cs3 os1 os2 os3 w1 w3 hbad hop1 e1 hb5 hrise hinv0 hN h kbM hMle kb ob hb1 hb2 hb3 hEw
          replace ho := Lib.hid ho
          replace hle := Lib.hid hle
          by_cases h3 : 300 < N.done.length
          · rw [if_pos h3] at hEv
            subst hEv
            have h3I : (300 : Int) < N.done.length := by omega
            replace h3 := Lib.hid h3
            repeat' (first
    | refine AW_seq_kn fun K hK => ?_
    | refine AW_block ?_
    | (refine does_call rfl rfl ?_; simp only [push_cast, seval, *]; refine ACall.monoP (Compare_p ⟨_, _, _⟩ ⟨_, _, _⟩ _) ?_; (try simp only [push_cast, seval, *]))
    | ((first
      | refine AW_region_draw (id := 10) E0 (fun f => [].contains f) dLM0 dAM0 mixed (by kernel_rfl) ?_
      | refine AW_region_draw (id := 25) E0 (fun f => [].contains f) dLM1 dAM1 mixed (by kernel_rfl) ?_
      | refine AW_region_draw (id := 27) E0 (fun f => [].contains f) dLM2 dAM2 mixed (by kernel_rfl) ?_
      | refine AW_region E0 ?_ | refine AW_ret ?_ | refine AW_exit ?_ | refine AW_skip ?_ | unfold retQ); try simp only [push_cast, seval, *])
    | ((first | (apply AW_cond; (case hc => (simp only [push_cast, seval]; rfl))) | (apply ER_guard; (case hb => (simp only [push_cast, seval]; rfl)))); all_goals ((intro hc; first | (exfalso; simp only [push_cast, seval, *] at hc; done) | (exact absurd hc (by decide)) | ((try first | rw [Bool.not_true] at hc | rw [Bool.not_false] at hc); first | (with_reducible replace hc := tTT hc); clear hc | (with_reducible replace hc := tFF hc); clear hc | (have hp := hc; try simp only [decide_eq_true_eq, decide_eq_false_iff_not, bA, bB, bC, bD, bE, bF, bG, bH] at hp))) <;> try simp only [push_cast, seval, *]))
    | (refine Kn.go hK ?_; clear hK K)
    | refine Kn.go (by assumption) ?_
    | (intro n hn; (try simp only [upd_none2, join_none_iff, ite_none, ne_eq] at hn); (try simp only [push_cast, seval, *]))
    | (intro hc)
    | (apply ER_blk; (case hp => rfl); (case hb => (simp only [push_cast, seval]; rfl)); (case hd => (simp only [push_cast, seval]; done)); (case h => (intro hc; simp only [push_cast, seval, *]; rfl)); simp only [push_cast, seval, *])
    | fail)
            exact ⟨_, Hs, Weak.refl _ _, rfl, .bad (by decide) rfl (unhid hle)⟩
          · rw [if_neg h3] at hEv
            subst hEv
            have h3I : ¬ (300 : Int) < N.done.length := by omega
            replace h3 := Lib.hid h3
            repeat' (first
    | refine AW_seq_kn fun K hK => ?_
    | refine AW_block ?_
    | (refine does_call rfl rfl ?_; simp only [push_cast, seval, *]; refine ACall.monoP (Compare_p ⟨_, _, _⟩ ⟨_, _, _⟩ _) ?_; (try simp only [push_cast, seval, *]))
    | ((first
      | refine AW_region_draw (id := 10) E0 (fun f => [].contains f) dLM0 dAM0 mixed (by kernel_rfl) ?_
      | refine AW_region_draw (id := 25) E0 (fun f => [].contains f) dLM1 dAM1 mixed (by kernel_rfl) ?_
      | refine AW_region_draw (id := 27) E0 (fun f => [].contains f) dLM2 dAM2 mixed (by kernel_rfl) ?_
      | refine AW_region E0 ?_ | refine AW_ret ?_ | refine AW_exit ?_ | refine AW_skip ?_ | unfold retQ); try simp only [push_cast, seval, *])
    | ((first | (apply AW_cond; (case hc => (simp only [push_cast, seval]; rfl))) | (apply ER_guard; (case hb => (simp only [push_cast, seval]; rfl)))); all_goals ((intro hc; first | (exfalso; simp only [push_cast, seval, *] at hc; done) | (exact absurd hc (by decide)) | ((try first | rw [Bool.not_true] at hc | rw [Bool.not_false] at hc); first | (with_reducible replace hc := tTT hc); clear hc | (with_reducible replace hc := tFF hc); clear hc | (have hp := hc; try simp only [decide_eq_true_eq, decide_eq_false_iff_not, bA, bB, bC, bD, bE, bF, bG, bH] at hp))) <;> try simp only [push_cast, seval, *]))
    | (refine Kn.go hK ?_; clear hK K)
    | refine Kn.go (by assumption) ?_
    | (intro n hn; (try simp only [upd_none2, join_none_iff, ite_none, ne_eq] at hn); (try simp only [push_cast, seval, *]))
    | (intro hc)
    | (apply ER_blk; (case hp => rfl); (case hb => (simp only [push_cast, seval]; rfl)); (case hd => (simp only [push_cast, seval]; done)); (case h => (intro hc; simp only [push_cast, seval, *]; rfl)); simp only [push_cast, seval, *])
    | fail)
            exact ⟨_, Hs, Weak.refl _ _, rfl, .inl ⟨rfl, y1, y2, y3, G, rfl, hnb, unhid ho⟩⟩
end Go.Proofs.Ytdeckjoeggmagaa
