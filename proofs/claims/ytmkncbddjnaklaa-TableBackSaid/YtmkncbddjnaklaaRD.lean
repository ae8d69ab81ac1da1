/- Walks: the document's Decode. -/
import Derived.Test.YtmkncbddjnaklaaRC
import Derived.Test.YtmkncbddjnaklaaRB
import Derived.Test.YtmkncbddjnaklaaTC2
namespace Go.Proofs.Ytmkncbddjnaklaa
open Go.RowKit
open Nat renaming reduceEqDiff → nA, reduceLT → nB, reduceLeDiff → nC, reduceAdd → nD, reduceMul → nE, reduceSub → nF, reduceBEq → nG
open Int renaming reduceToNat → iA, reduceLT → iB, reduceLE → iC, reduceEq → iD
open Bool renaming and_eq_true → bA, or_eq_true → bB, or_eq_false_iff → bC, and_eq_false_iff → bD, not_eq_true' → bE, not_eq_false' → bF, not_true → bG, not_false → bH
set_option linter.all false
set_option maxHeartbeats 4000000
attribute [local irreducible] AW Does ACall tE tS tB tZ
def dLRD0 : List En := [(0, false, []), (1, true, []), (2, false, []), (3, false, []), (4, true, []), (5, false, []), (6, false, []), (7, false, []), (8, true, []), (9, false, []), (10, false, []), (11, false, []), (14, false, []), (15, false, []), (12, false, [1, 4, 8]), (13, false, []), (16, false, [1, 4, 8]), (17, false, []), (18, false, []), (19, false, []), (20, false, []), (21, false, []), (22, false, []), (23, false, [])]
def dARD0 : List (List Nat) := [[], [0], [], [2], [2, 3], [2, 3, 4], [], [6], [6, 7], [6, 7, 8], [], [10], [10, 11], [10, 11, 12], [], [14], [10, 11, 12, 14, 15], [10, 11, 12, 14, 15, 16], [10, 11, 12, 13, 14, 15, 16, 17], [2, 3, 4, 5, 6, 7, 8, 9, 10, 11, 12, 13, 14, 15, 16, 17, 18], [2, 3, 4, 5, 6, 7, 8, 9, 10, 11, 12, 13, 14, 15, 16, 17, 18, 19], [0, 1, 2, 3, 4, 5, 6, 7, 8, 9, 10, 11, 12, 13, 14, 15, 16, 17, 18, 19, 20], [0, 1, 2, 3, 4, 5, 6, 7, 8, 9, 10, 11, 12, 13, 14, 15, 16, 17, 18, 19, 20, 21], [0, 1, 2, 3, 4, 5, 6, 7, 8, 9, 10, 11, 12, 13, 14, 15, 16, 17, 18, 19, 20, 21, 22]]
attribute [push_cast] dLRD0

def rdecS (b : List Int) : List KC × Int := if b.length < 2 then ([], 7) else if b.length < 2 + 18 * cntB b then ([], 7)
  else if b.length = 2 + 18 * cntB b ∧ tOk (parseS (b.drop 2) (cntB b)) = true then (parseS (b.drop 2) (cntB b), 0) else ([], 220)
theorem right_l (l : List KC) (hl : l.length ≤ maxLen) (x : AV) (B B0 : Heap) (hown : OwnL B x 80 4 (l.map KC.av) B0) :
    ACall Try.prog 52 [.g [x]] B fun q H' => q = .c (.bool (tOk l)) ∧ H' = B := by
  have h1 : Lents B [x] [.l 4 (l.map KC.av)] := (show Lent _ _ _ ∧ True from ⟨hown.lent, trivial⟩)
  have h2 : Lents B [.g [x]] [.g [.l 4 (l.map KC.av)]] := (show Lent _ _ _ ∧ True from ⟨Lent.g h1 (by simp [AV.one]), trivial⟩)
  have hr := (tright_p l hl).cl
  have e : (if tOk l = true then vBT else vBF) = .c (.bool (tOk l)) := by cases tOk l <;> rfl
  rw [e] at hr
  exact ACall.lend (Flat.c _) h2 hr
theorem get_take {α : Type} {l : List α} {k i : Nat} (h : i < k) : (l.take k)[i]? = l[i]? := by rw [List.getElem?_take]; simp [h]
theorem rDecode_p (b : List Int) (ho : octs b) (hb : b.length ≤ 800000) : Pure Try.prog 60 [.l 1 (b.map by1)] (.t [.g [.l 4 ((rdecS b).1.map KC.av)], .c (.int .i64 (rdecS b).2)]) := by
  intro H
  have hD : rdecS b = if b.length < 2 then ([], 7) else if b.length < 2 + 18 * cntB b then ([], 7)
    else if b.length = 2 + 18 * cntB b ∧ tOk (parseS (b.drop 2) (cntB b)) = true then (parseS (b.drop 2) (cntB b), 0) else ([], 220) := rfl
  generalize rdecS b = D at *
  obtain ⟨D1, D2⟩ := D
  by_cases h2 : b.length < 2
  · rw [if_pos h2, Prod.mk.injEq] at hD
    obtain ⟨rfl, rfl⟩ := hD
    have h2T : ((b.length : Int) < 2) = True := by simp; omega
    simp only [List.map_nil]
    refine ACall_of' Try.func60 rfl (Ent_of Try.func60 (by kernel_rfl) rfl) (by simp [Try.ntmps60]) ?_; simp only [Try.ntmps60, Try.results60]
    repeat' (first
    | refine AW_seq_kn fun K hK => ?_
    | refine AW_block ?_
    | ((first
      | refine AW_region_draw (id := 9) E0 (fun f => [].contains f) dLRD0 dARD0 mixed (by kernel_rfl) ?_
      | refine AW_region E0 ?_ | refine AW_ret ?_ | refine AW_exit ?_ | refine AW_skip ?_ | unfold retQ); try simp only [push_cast, seval, *])
    | ((first | (apply AW_cond; (case hc => (simp only [push_cast, seval]; rfl))) | (apply ER_guard; (case hb => (simp only [push_cast, seval]; rfl)))); all_goals ((intro hc; first | (exfalso; simp only [push_cast, seval, *] at hc; done) | (exact absurd hc (by decide)) | ((try first | rw [Bool.not_true] at hc | rw [Bool.not_false] at hc); first | (with_reducible replace hc := tTT hc); clear hc | (with_reducible replace hc := tFF hc); clear hc | (have hp := hc; try simp only [decide_eq_true_eq, decide_eq_false_iff_not, bA, bB, bC, bD, bE, bF, bG, bH] at hp))) <;> try simp only [push_cast, seval, *]))
    | (refine Kn.go hK ?_; clear hK K)
    | refine Kn.go (by assumption) ?_
    | (intro n hn; (try simp only [upd_none2, join_none_iff, ite_none, ne_eq] at hn); (try simp only [push_cast, seval, *]))
    | (intro hc)
    | (apply ER_blk; (case hp => rfl); (case hb => (simp only [push_cast, seval]; rfl)); (case hd => (simp only [push_cast, seval]; done)); (case h => (intro hc; simp only [push_cast, seval, *]; rfl)); simp only [push_cast, seval, *])
    | fail)
    exact ⟨_, _, Weak.imp (fun F => nil_tab4) (by (simp only [push_cast, seval, *])), rfl, rfl⟩
  rw [if_neg h2] at hD
  have h2F : ((b.length : Int) < 2) = False := by simp; omega
  have hl2 : (2 : Int) ≤ b.length := by omega
  have hnu := number_p (b.take 2) (ho.take 2) (by rw [List.length_take]; omega)
  have hbd := numB_bd (b.take 2) (ho.take 2)
  have hlt2 : (b.take 2).length = 2 := by rw [List.length_take]; omega
  rw [hlt2] at hbd
  have hN : ((cntB b : Nat) : Int) = numB (b.take 2) := by unfold cntB; omega
  have hN2 : cntB b ≤ 65535 := by
    have : (256 : Int) ^ 2 = 65536 := by decide
    omega
  rw [← hN] at hnu
  have hNw : IntKind.i64.wrap ((cntB b : Nat) : Int) = ((cntB b : Nat) : Int) := wrap_i64 (by omega) (by omega)
  have htk : List.take 2 (b.map by1) = (b.take 2).map by1 := List.map_take.symm
  generalize b.take 2 = b2 at *
  generalize hcn : cntB b = N at *
  clear hbd hlt2 hN hcn
  have hw1 : IntKind.i64.wrap (18 * (N : Int)) = 18 * (N : Int) := wrap_i64 (by omega) (by omega)
  have hw2 : IntKind.i64.wrap (2 + 18 * (N : Int)) = 2 + 18 * (N : Int) := wrap_i64 (by omega) (by omega)
  by_cases h3 : b.length < 2 + 18 * N
  · rw [if_pos h3, Prod.mk.injEq] at hD
    obtain ⟨rfl, rfl⟩ := hD
    have h3T : ((b.length : Int) < 2 + 18 * (N : Int)) = True := by simp; omega
    simp only [List.map_nil]
    refine ACall_of' Try.func60 rfl (Ent_of Try.func60 (by kernel_rfl) rfl) (by simp [Try.ntmps60]) ?_; simp only [Try.ntmps60, Try.results60]
    repeat' (first
    | refine AW_seq_kn fun K hK => ?_
    | refine AW_block ?_
    | (refine does_call rfl rfl ?_; simp only [push_cast, seval, *]; refine ACall.monoP (hnu _) ?_; (try simp only [push_cast, seval, *]))
    | ((first
      | refine AW_region_draw (id := 9) E0 (fun f => [].contains f) dLRD0 dARD0 mixed (by kernel_rfl) ?_
      | refine AW_region E0 ?_ | refine AW_ret ?_ | refine AW_exit ?_ | refine AW_skip ?_ | unfold retQ); try simp only [push_cast, seval, *])
    | ((first | (apply AW_cond; (case hc => (simp only [push_cast, seval]; rfl))) | (apply ER_guard; (case hb => (simp only [push_cast, seval]; rfl)))); all_goals ((intro hc; first | (exfalso; simp only [push_cast, seval, *] at hc; done) | (exact absurd hc (by decide)) | ((try first | rw [Bool.not_true] at hc | rw [Bool.not_false] at hc); first | (with_reducible replace hc := tTT hc); clear hc | (with_reducible replace hc := tFF hc); clear hc | (have hp := hc; try simp only [decide_eq_true_eq, decide_eq_false_iff_not, bA, bB, bC, bD, bE, bF, bG, bH] at hp))) <;> try simp only [push_cast, seval, *]))
    | (refine Kn.go hK ?_; clear hK K)
    | refine Kn.go (by assumption) ?_
    | (intro n hn; (try simp only [upd_none2, join_none_iff, ite_none, ne_eq] at hn); (try simp only [push_cast, seval, *]))
    | (intro hc)
    | (apply ER_blk; (case hp => rfl); (case hb => (simp only [push_cast, seval]; rfl)); (case hd => (simp only [push_cast, seval]; done)); (case h => (intro hc; simp only [push_cast, seval, *]; rfl)); simp only [push_cast, seval, *])
    | fail)
    exact ⟨_, _, Weak.imp (fun F => nil_tab4) (by (simp only [push_cast, seval, *])), rfl, rfl⟩
  rw [if_neg h3] at hD
  have h3F : ((b.length : Int) < 2 + 18 * (N : Int)) = False := by simp; omega
  obtain ⟨R, hRe⟩ : ∃ R, R = b.drop 2 := ⟨_, rfl⟩
  rw [← hRe] at hD
  have hRl : R.length = b.length - 2 := by rw [hRe, List.length_drop]
  replace hD := Lib.hid hD
  replace hRe := Lib.hid hRe
  refine ACall_of' Try.func60 rfl (Ent_of Try.func60 (by kernel_rfl) rfl) (by simp [Try.ntmps60]) ?_; simp only [Try.ntmps60, Try.results60]
  repeat' (first
    | refine AW_seq_kn fun K hK => ?_
    | refine AW_block ?_
    | (refine does_call rfl rfl ?_; simp only [push_cast, seval, *]; refine ACall.monoP (hnu _) ?_; (try simp only [push_cast, seval, *]))
    | ((first
      | refine AW_region_draw (id := 9) E0 (fun f => [].contains f) dLRD0 dARD0 mixed (by kernel_rfl) ?_
      | refine AW_region E0 ?_ | refine AW_ret ?_ | refine AW_exit ?_ | refine AW_skip ?_ | unfold retQ); try simp only [push_cast, seval, *])
    | ((first | (apply AW_cond; (case hc => (simp only [push_cast, seval]; rfl))) | (apply ER_guard; (case hb => (simp only [push_cast, seval]; rfl)))); all_goals ((intro hc; first | (exfalso; simp only [push_cast, seval, *] at hc; done) | (exact absurd hc (by decide)) | ((try first | rw [Bool.not_true] at hc | rw [Bool.not_false] at hc); first | (with_reducible replace hc := tTT hc); clear hc | (with_reducible replace hc := tFF hc); clear hc | (have hp := hc; try simp only [decide_eq_true_eq, decide_eq_false_iff_not, bA, bB, bC, bD, bE, bF, bG, bH] at hp))) <;> try simp only [push_cast, seval, *]))
    | (refine Kn.go hK ?_; clear hK K)
    | refine Kn.go (by assumption) ?_
    | (intro n hn; (try simp only [upd_none2, join_none_iff, ite_none, ne_eq] at hn); (try simp only [push_cast, seval, *]))
    | (intro hc)
    | (apply ER_blk; (case hp => rfl); (case hb => (simp only [push_cast, seval]; rfl)); (case hd => (simp only [push_cast, seval]; done)); (case h => (intro hc; simp only [push_cast, seval, *]; rfl)); simp only [push_cast, seval, *])
    | fail)
  rename_i n2 hn2
  generalize n = n4 at *
  obtain ⟨Gs, hGs⟩ : ∃ Gs : Heap, Gs = upd H n2 (bxT (.c (.slice none 0 0))) := ⟨_, rfl⟩
  have g2 : Gs n2 = some (bxT (.c (.slice none 0 0))) := by rw [hGs]; exact upd_same _ _ _
  have hG4 : Gs n4 = none := by rw [hGs, upd_ne hn.1.1]; exact hn.2
  have c24 : ¬ n2 = n4 := hn.1.2
  have c42 : ¬ n4 = n2 := hn.1.1
  have hle : Heap.le H Gs := by rw [hGs]; exact le_upd_new hn2
  simp only [bxT] at hGs
  rw [← hGs]
  clear hGs hn htk hnu
  replace hle := Lib.hid hle
  refine AW_loopX (σ := AV × Heap) N (fun k w => OwnL w.2 w.1 80 4 ((parseS R k).map KC.av) (upd Gs n4 (bxT w.1))) (fun k w => [(0, .l 1 (b.map by1)), (2, .p n2 1 0 0), (4, .p n4 1 0 0), (5, ci N), (27, ci N), (28, ci k)]) (fun _ w => w.2) (.c (.slice none 0 0), upd Gs n4 (bxT (.c (.slice none 0 0)))) (OwnL.nil _ _ _) ?_ ?_ ?_ ?_
  · (first | trivial | (simp only [push_cast, seval, *]; done))
  · exact Heap.le_refl _
  · rintro k ⟨x, B⟩ hk hown
    simp only at hown
    have hkl : (k : Int) < N := (by omega); have hkw : IntKind.i64.wrap ((k : Int) + 1) = (k : Int) + 1 := wrap_i64 (by omega) (by omega)
    have hps := parse_succ R k
    have hpl := parse_len R k
    rw [hps]
    obtain ⟨L, hL⟩ : ∃ L, L = R.drop (18 * k) := ⟨_, rfl⟩
    have hLl : 18 ≤ L.length := by rw [hL, List.length_drop]; omega
    have hLb : L = b.drop (2 + 18 * k) := by rw [hL, unhid hRe, List.drop_drop]
    have hLo : octs L := by rw [hLb]; exact ho.drop _
    rw [← hL]
    obtain ⟨lo, hlo⟩ : ∃ lo : Nat, lo = 2 + 18 * k := ⟨_, rfl⟩
    obtain ⟨hi, hhi⟩ : ∃ hi : Nat, hi = 20 + 18 * k := ⟨_, rfl⟩
    have hw3 : IntKind.i64.wrap (18 * (k : Int)) = 18 * (k : Int) := wrap_i64 (by omega) (by omega)
    have hw4 : IntKind.i64.wrap (2 + 18 * (k : Int)) = (lo : Int) := by rw [wrap_i64 (by omega) (by omega)]; omega
    have hw5 : IntKind.i64.wrap (20 + 18 * (k : Int)) = (hi : Int) := by rw [wrap_i64 (by omega) (by omega)]; omega
    have hlh : (lo : Int) ≤ hi := by omega
    have hhb : (hi : Int) ≤ b.length := by omega
    have hsl : List.take (hi - lo) (List.drop lo (b.map by1)) = (L.take 18).map by1 := by rw [hLb, hlo, hhi, List.map_take, List.map_drop]; congr 1; omega
    have hX18 : (L.take 18).length = 18 := by rw [List.length_take]; omega
    obtain ⟨s, kk, r2, hLe⟩ := two_of (b := L) (by omega)
    have hx0 : (L.take 18)[0]? = some s := by rw [get_take (by omega), hLe]; rfl
    have hx1 : (L.take 18)[1]? = some kk := by rw [get_take (by omega), hLe]; rfl
    have hos := hLo s (by rw [hLe]; simp)
    have hok := hLo kk (by rw [hLe]; simp)
    have hn1 := number_p ((L.drop 2).take 8) ((hLo.drop 2).take 8) (by rw [List.length_take]; omega)
    have hn2' := number_p ((L.drop 10).take 8) ((hLo.drop 10).take 8) (by rw [List.length_take]; omega)
    have hs1 : List.take 8 (List.drop 2 ((L.take 18).map by1)) = ((L.drop 2).take 8).map by1 := by rw [← List.map_drop, ← List.map_take, List.drop_take, List.take_take]; congr 1
    have hs2 : List.take 8 (List.drop 10 ((L.take 18).map by1)) = ((L.drop 10).take 8).map by1 := by rw [← List.map_drop, ← List.map_take, List.drop_take, List.take_take]; congr 1
    have hrow : rowP L = ⟨s, kk, IntKind.i64.wrap (numB ((L.drop 2).take 8)), IntKind.i64.wrap (numB ((L.drop 10).take 8))⟩ := by rw [hLe]; rfl
    have hsw : IntKind.i64.wrap s = s := wrap_i64 (by omega) (by omega)
    have hkw2 : IntKind.i64.wrap kk = kk := wrap_i64 (by omega) (by omega)
    have hby0 : by1 s = [.c (.int .u8 s)] := rfl
    have hby1 : by1 kk = [.c (.int .u8 kk)] := rfl
    rw [hrow]
    generalize L.take 18 = X at *
    have hXl : (X.length : Int) = 18 := by omega
    generalize (L.drop 2).take 8 = Y1 at *
    generalize (L.drop 10).take 8 = Y2 at *
    generalize numB Y1 = X1 at *
    generalize numB Y2 = X2 at *
    generalize hW1 : IntKind.i64.wrap X1 = W1 at *
    generalize hW2 : IntKind.i64.wrap X2 = W2 at *
    have k4 := hown.get (m := n4) (upd_same _ _ _)
    have hcs := hown.cs
    clear hL hLl hLb hLo hLe hos hok hrow hps hlo hhi hX18
    replace hown := Lib.hid hown
    simp only [bxT] at k4
    repeat' (first
    | refine AW_seq_kn fun K hK => ?_
    | refine AW_block ?_
    | (refine does_call rfl rfl ?_; simp only [push_cast, seval, *]; refine ACall.monoP (hn1 _) ?_; (try simp only [push_cast, seval, *]))
    | (refine does_call rfl rfl ?_; simp only [push_cast, seval, *]; refine ACall.monoP (hn2' _) ?_; (try simp only [push_cast, seval, *]))
    | ((first
      | refine AW_region_draw (id := 9) E0 (fun f => [].contains f) dLRD0 dARD0 mixed (by kernel_rfl) ?_
      | refine AW_region E0 ?_ | refine AW_ret ?_ | refine AW_exit ?_ | refine AW_skip ?_ | unfold retQ); try simp only [push_cast, seval, *])
    | ((first | (apply AW_cond; (case hc => (simp only [push_cast, seval]; rfl))) | (apply ER_guard; (case hb => (simp only [push_cast, seval]; rfl)))); all_goals ((intro hc; first | (exfalso; simp only [push_cast, seval, *] at hc; done) | (exact absurd hc (by decide)) | ((try first | rw [Bool.not_true] at hc | rw [Bool.not_false] at hc); first | (with_reducible replace hc := tTT hc); clear hc | (with_reducible replace hc := tFF hc); clear hc | (have hp := hc; try simp only [decide_eq_true_eq, decide_eq_false_iff_not, bA, bB, bC, bD, bE, bF, bG, bH] at hp))) <;> try simp only [push_cast, seval, *]))
    | (refine Kn.go hK ?_; clear hK K)
    | refine Kn.go (by assumption) ?_
    | (intro n hn; (try simp only [upd_none2, join_none_iff, ite_none, ne_eq] at hn); (try simp only [push_cast, seval, *]))
    | (intro hc)
    | (apply ER_blk; (case hp => rfl); (case hb => (simp only [push_cast, seval]; rfl)); (case hd => (simp only [push_cast, seval]; done)); (case h => (intro hc; simp only [push_cast, seval, *]; rfl)); simp only [push_cast, seval, *])
    | fail)
    refine does_app1 rfl rfl rfl rfl (unhid hown) hn tE47 tS80 tB80 tZ80 rfl (by decide) ?_ ?_ ?_
    · simp only [List.length_map, maxLen]; omega
    · simp only [List.length_map]; omega
    intro x' H' hown'
    have kk4 := hown'.get (upd_same _ _ _)
    have hcs' := hown'.cs
    have hfin := hown'.turn (upd_same _ _ _) (bxT x')
    rw [upd_upd] at hfin
    rw [show [[AV.c (Value.int IntKind.i64 s), AV.c (Value.int IntKind.i64 kk), AV.c (Value.int IntKind.i64 W1), AV.c (Value.int IntKind.i64 W2)]] = [KC.av ⟨s, kk, W1, W2⟩].map id from rfl, List.map_id, ← List.map_singleton (f := KC.av), ← List.map_append] at hfin
    clear hown' hown k4 hcs hn
    replace hfin := Lib.hid hfin
    simp only [bxT] at kk4
    (try simp only [push_cast, seval, *])
    repeat' (first
    | refine AW_seq_kn fun K hK => ?_
    | refine AW_block ?_
    | ((first
      | refine AW_region_draw (id := 9) E0 (fun f => [].contains f) dLRD0 dARD0 mixed (by kernel_rfl) ?_
      | refine AW_region E0 ?_ | refine AW_ret ?_ | refine AW_exit ?_ | refine AW_skip ?_ | unfold retQ); try simp only [push_cast, seval, *])
    | ((first | (apply AW_cond; (case hc => (simp only [push_cast, seval]; rfl))) | (apply ER_guard; (case hb => (simp only [push_cast, seval]; rfl)))); all_goals ((intro hc; first | (exfalso; simp only [push_cast, seval, *] at hc; done) | (exact absurd hc (by decide)) | ((try first | rw [Bool.not_true] at hc | rw [Bool.not_false] at hc); first | (with_reducible replace hc := tTT hc); clear hc | (with_reducible replace hc := tFF hc); clear hc | (have hp := hc; try simp only [decide_eq_true_eq, decide_eq_false_iff_not, bA, bB, bC, bD, bE, bF, bG, bH] at hp))) <;> try simp only [push_cast, seval, *]))
    | (refine Kn.go hK ?_; clear hK K)
    | refine Kn.go (by assumption) ?_
    | (intro n hn; (try simp only [upd_none2, join_none_iff, ite_none, ne_eq] at hn); (try simp only [push_cast, seval, *]))
    | (intro hc)
    | (apply ER_blk; (case hp => rfl); (case hb => (simp only [push_cast, seval]; rfl)); (case hd => (simp only [push_cast, seval]; done)); (case h => (intro hc; simp only [push_cast, seval, *]; rfl)); simp only [push_cast, seval, *])
    | fail)
    exact ⟨(x', _), unhid hfin, by (first | trivial | (simp only [push_cast, seval, *]; done)), by first | exact Heap.le_refl _ | (first | trivial | ((simp only [push_cast, seval, *]); repeat' (first | rfl | exact Heap.le_refl _ | refine And.intro ?_ ?_)) | rfl | exact ⟨rfl, rfl⟩ | exact ⟨rfl, rfl, rfl⟩ | exact Heap.le_refl _)⟩
  · rintro ⟨x, B⟩ hown
    simp only at hown
    have hpl := parse_len R N
    have hD := unhid hD
    generalize parseS R N = T at *
    have k4 := hown.get (m := n4) (upd_same _ _ _)
    have k2 := hown.get (m := n2) (by rw [upd_ne c24]; exact g2)
    have hcs := hown.cs
    have hone := hown.one
    have hrl := right_l T (by unfold maxLen; omega) x B _ hown
    have hle2 : ∀ c d, Heap.le H (upd (upd Gs n4 c) n2 d) := fun c d q z hq => by
      have hz := unhid hle q z hq
      have e2 : q ≠ n2 := by rintro rfl; rw [hn2] at hq; cases hq
      have e4 : q ≠ n4 := by rintro rfl; rw [hG4] at hz; cases hz
      rw [upd_ne e2, upd_ne e4]; exact hz
    have hle3 : ∀ d, Heap.le H (upd B n2 d) := fun d q z hq => by
      have hz := unhid hle q z hq
      have e2 : q ≠ n2 := by rintro rfl; rw [hn2] at hq; cases hq
      have e4 : q ≠ n4 := by rintro rfl; rw [hG4] at hz; cases hz
      rw [upd_ne e2]
      exact hown.get (by rw [upd_ne e4]; exact hz)
    have ht2 := hown.turn (m := n2) (by rw [upd_ne c24]; exact g2) (bxT x)
    replace hle2 := Lib.hid hle2
    replace hle3 := Lib.hid hle3
    replace ht2 := Lib.hid ht2
    replace hrl := Lib.hid hrl
    simp only [bxT] at k4 k2
    clear hown hle g2
    by_cases hl : b.length = 2 + 18 * N
    · have hlT : ((b.length : Int) = 2 + 18 * (N : Int)) = True := by simp; omega
      cases ht : tOk T
      · rw [if_neg (by rw [ht]; simp), Prod.mk.injEq] at hD
        obtain ⟨rfl, rfl⟩ := hD
        simp only [List.map_nil]
        repeat' (first
    | refine AW_seq_kn fun K hK => ?_
    | refine AW_block ?_
    | ((first
      | refine AW_region_draw (id := 9) E0 (fun f => [].contains f) dLRD0 dARD0 mixed (by kernel_rfl) ?_
      | refine AW_region E0 ?_ | refine AW_ret ?_ | refine AW_exit ?_ | refine AW_skip ?_ | unfold retQ); try simp only [push_cast, seval, *])
    | ((first | (apply AW_cond; (case hc => (simp only [push_cast, seval]; rfl))) | (apply ER_guard; (case hb => (simp only [push_cast, seval]; rfl)))); all_goals ((intro hc; first | (exfalso; simp only [push_cast, seval, *] at hc; done) | (exact absurd hc (by decide)) | ((try first | rw [Bool.not_true] at hc | rw [Bool.not_false] at hc); first | (with_reducible replace hc := tTT hc); clear hc | (with_reducible replace hc := tFF hc); clear hc | (have hp := hc; try simp only [decide_eq_true_eq, decide_eq_false_iff_not, bA, bB, bC, bD, bE, bF, bG, bH] at hp))) <;> try simp only [push_cast, seval, *]))
    | (refine Kn.go hK ?_; clear hK K)
    | refine Kn.go (by assumption) ?_
    | (intro n hn; (try simp only [upd_none2, join_none_iff, ite_none, ne_eq] at hn); (try simp only [push_cast, seval, *]))
    | (intro hc)
    | (apply ER_blk; (case hp => rfl); (case hb => (simp only [push_cast, seval]; rfl)); (case hd => (simp only [push_cast, seval]; done)); (case h => (intro hc; simp only [push_cast, seval, *]; rfl)); simp only [push_cast, seval, *])
    | fail)
        refine does_call rfl rfl ?_
        simp only [push_cast, seval, *]
        refine ACall.monoP (unhid hrl) ?_
        (try simp only [push_cast, seval, *])
        repeat' (first
    | refine AW_seq_kn fun K hK => ?_
    | refine AW_block ?_
    | ((first
      | refine AW_region_draw (id := 9) E0 (fun f => [].contains f) dLRD0 dARD0 mixed (by kernel_rfl) ?_
      | refine AW_region E0 ?_ | refine AW_ret ?_ | refine AW_exit ?_ | refine AW_skip ?_ | unfold retQ); try simp only [push_cast, seval, *])
    | ((first | (apply AW_cond; (case hc => (simp only [push_cast, seval]; rfl))) | (apply ER_guard; (case hb => (simp only [push_cast, seval]; rfl)))); all_goals ((intro hc; first | (exfalso; simp only [push_cast, seval, *] at hc; done) | (exact absurd hc (by decide)) | ((try first | rw [Bool.not_true] at hc | rw [Bool.not_false] at hc); first | (with_reducible replace hc := tTT hc); clear hc | (with_reducible replace hc := tFF hc); clear hc | (have hp := hc; try simp only [decide_eq_true_eq, decide_eq_false_iff_not, bA, bB, bC, bD, bE, bF, bG, bH] at hp))) <;> try simp only [push_cast, seval, *]))
    | (refine Kn.go hK ?_; clear hK K)
    | refine Kn.go (by assumption) ?_
    | (intro n hn; (try simp only [upd_none2, join_none_iff, ite_none, ne_eq] at hn); (try simp only [push_cast, seval, *]))
    | (intro hc)
    | (apply ER_blk; (case hp => rfl); (case hb => (simp only [push_cast, seval]; rfl)); (case hd => (simp only [push_cast, seval]; done)); (case h => (intro hc; simp only [push_cast, seval, *]; rfl)); simp only [push_cast, seval, *])
    | fail)
        exact ⟨_, _, Weak.imp (fun F => nil_tab4) (unhid hle3 _), rfl, rfl⟩
      · rw [if_pos ⟨hl, ht⟩, Prod.mk.injEq] at hD
        obtain ⟨rfl, rfl⟩ := hD
        repeat' (first
    | refine AW_seq_kn fun K hK => ?_
    | refine AW_block ?_
    | ((first
      | refine AW_region_draw (id := 9) E0 (fun f => [].contains f) dLRD0 dARD0 mixed (by kernel_rfl) ?_
      | refine AW_region E0 ?_ | refine AW_ret ?_ | refine AW_exit ?_ | refine AW_skip ?_ | unfold retQ); try simp only [push_cast, seval, *])
    | ((first | (apply AW_cond; (case hc => (simp only [push_cast, seval]; rfl))) | (apply ER_guard; (case hb => (simp only [push_cast, seval]; rfl)))); all_goals ((intro hc; first | (exfalso; simp only [push_cast, seval, *] at hc; done) | (exact absurd hc (by decide)) | ((try first | rw [Bool.not_true] at hc | rw [Bool.not_false] at hc); first | (with_reducible replace hc := tTT hc); clear hc | (with_reducible replace hc := tFF hc); clear hc | (have hp := hc; try simp only [decide_eq_true_eq, decide_eq_false_iff_not, bA, bB, bC, bD, bE, bF, bG, bH] at hp))) <;> try simp only [push_cast, seval, *]))
    | (refine Kn.go hK ?_; clear hK K)
    | refine Kn.go (by assumption) ?_
    | (intro n hn; (try simp only [upd_none2, join_none_iff, ite_none, ne_eq] at hn); (try simp only [push_cast, seval, *]))
    | (intro hc)
    | (apply ER_blk; (case hp => rfl); (case hb => (simp only [push_cast, seval]; rfl)); (case hd => (simp only [push_cast, seval]; done)); (case h => (intro hc; simp only [push_cast, seval, *]; rfl)); simp only [push_cast, seval, *])
    | fail)
        refine does_call rfl rfl ?_
        simp only [push_cast, seval, *]
        refine ACall.monoP (unhid hrl) ?_
        (try simp only [push_cast, seval, *])
        repeat' (first
    | refine AW_seq_kn fun K hK => ?_
    | refine AW_block ?_
    | ((first
      | refine AW_region_draw (id := 9) E0 (fun f => [].contains f) dLRD0 dARD0 mixed (by kernel_rfl) ?_
      | refine AW_region E0 ?_ | refine AW_ret ?_ | refine AW_exit ?_ | refine AW_skip ?_ | unfold retQ); try simp only [push_cast, seval, *])
    | ((first | (apply AW_cond; (case hc => (simp only [push_cast, seval]; rfl))) | (apply ER_guard; (case hb => (simp only [push_cast, seval]; rfl)))); all_goals ((intro hc; first | (exfalso; simp only [push_cast, seval, *] at hc; done) | (exact absurd hc (by decide)) | ((try first | rw [Bool.not_true] at hc | rw [Bool.not_false] at hc); first | (with_reducible replace hc := tTT hc); clear hc | (with_reducible replace hc := tFF hc); clear hc | (have hp := hc; try simp only [decide_eq_true_eq, decide_eq_false_iff_not, bA, bB, bC, bD, bE, bF, bG, bH] at hp))) <;> try simp only [push_cast, seval, *]))
    | (refine Kn.go hK ?_; clear hK K)
    | refine Kn.go (by assumption) ?_
    | (intro n hn; (try simp only [upd_none2, join_none_iff, ite_none, ne_eq] at hn); (try simp only [push_cast, seval, *]))
    | (intro hc)
    | (apply ER_blk; (case hp => rfl); (case hb => (simp only [push_cast, seval]; rfl)); (case hd => (simp only [push_cast, seval]; done)); (case h => (intro hc; simp only [push_cast, seval, *]; rfl)); simp only [push_cast, seval, *])
    | fail)
        exact ⟨_, _, ((unhid ht2).weak fun F F' hF hi _ => Imp.t (Imps.cons (Imp.g (Imps.cons hi (fun _ => rfl) Imps.nil)) id (Imps.cons (Imp.refl hF _) id Imps.nil))).trans (Weak.less (unhid hle2 _ _)), rfl, rfl⟩
    · have hlF : ((b.length : Int) = 2 + 18 * (N : Int)) = False := by simp; omega
      rw [if_neg (fun h => hl h.1), Prod.mk.injEq] at hD
      obtain ⟨rfl, rfl⟩ := hD
      simp only [List.map_nil]
      clear hrl
      repeat' (first
    | refine AW_seq_kn fun K hK => ?_
    | refine AW_block ?_
    | ((first
      | refine AW_region_draw (id := 9) E0 (fun f => [].contains f) dLRD0 dARD0 mixed (by kernel_rfl) ?_
      | refine AW_region E0 ?_ | refine AW_ret ?_ | refine AW_exit ?_ | refine AW_skip ?_ | unfold retQ); try simp only [push_cast, seval, *])
    | ((first | (apply AW_cond; (case hc => (simp only [push_cast, seval]; rfl))) | (apply ER_guard; (case hb => (simp only [push_cast, seval]; rfl)))); all_goals ((intro hc; first | (exfalso; simp only [push_cast, seval, *] at hc; done) | (exact absurd hc (by decide)) | ((try first | rw [Bool.not_true] at hc | rw [Bool.not_false] at hc); first | (with_reducible replace hc := tTT hc); clear hc | (with_reducible replace hc := tFF hc); clear hc | (have hp := hc; try simp only [decide_eq_true_eq, decide_eq_false_iff_not, bA, bB, bC, bD, bE, bF, bG, bH] at hp))) <;> try simp only [push_cast, seval, *]))
    | (refine Kn.go hK ?_; clear hK K)
    | refine Kn.go (by assumption) ?_
    | (intro n hn; (try simp only [upd_none2, join_none_iff, ite_none, ne_eq] at hn); (try simp only [push_cast, seval, *]))
    | (intro hc)
    | (apply ER_blk; (case hp => rfl); (case hb => (simp only [push_cast, seval]; rfl)); (case hd => (simp only [push_cast, seval]; done)); (case h => (intro hc; simp only [push_cast, seval, *]; rfl)); simp only [push_cast, seval, *])
    | fail)
      exact ⟨_, _, Weak.imp (fun F => nil_tab4) (unhid hle3 _), rfl, rfl⟩
end Go.Proofs.Ytmkncbddjnaklaa
