/- TxlogDoes. -/
import Derived.Test.YtdeckjoeggmagaaDP
import Derived.Test.YtdeckjoeggmagaaDD
import Derived.Test.YtdeckjoeggmagaaDM
import Derived.Test.YtdeckjoeggmagaaDO
namespace Go.Proofs.Ytdeckjoeggmagaa
open Go.RowKit
open Nat renaming reduceEqDiff → nA, reduceLT → nB, reduceLeDiff → nC, reduceAdd → nD, reduceMul → nE, reduceSub → nF, reduceBEq → nG
open Int renaming reduceToNat → iA, reduceLT → iB, reduceLE → iC, reduceEq → iD
open Bool renaming and_eq_true → bA, or_eq_true → bB, or_eq_false_iff → bC, and_eq_false_iff → bD, not_eq_true' → bE, not_eq_false' → bF, not_true → bG, not_false → bH
set_option linter.all false
set_option maxHeartbeats 4000000
attribute [local irreducible] AW Does ACall tE tS tB tZ
def dLDQ0 : List En := [(0, true, []), (1, false, []), (2, false, [0, 8]), (3, false, [8]), (4, false, []), (5, false, []), (6, false, []), (7, false, []), (8, false, []), (9, false, []), (10, false, []), (11, false, [])]
def dADQ0 : List (List Nat) := [[], [], [1], [0, 1, 2], [0, 1, 2, 3], [0, 1, 2, 3, 4], [0, 1, 2, 3, 4], [0, 1, 2, 3, 4], [], [0, 1, 2, 3, 4, 5, 8], [0, 1, 2, 3, 4, 5, 6, 8, 9], [0, 1, 2, 3, 4, 5, 6, 7, 8, 9, 10]]
attribute [push_cast] dLDQ0
set_option maxRecDepth 5000

theorem run_post (l : Lg) (o : Op16) : ((runR l o).2.2 = 0 → LOk (runR l o).1) ∧ (¬ (runR l o).2.2 = 0 → (runR l o).1 = zeroL) := by
  cases hok : lgOk l
  · rw [runR_no l o hok]; exact ⟨fun h => absurd h (by decide), fun _ => rfl⟩
  cases hno : namedS o
  · rw [runR_nn l o hok hno]; exact ⟨fun h => absurd h (by decide), fun _ => rfl⟩
  refine ⟨fun h => run_ok ((lgOk_iff l).1 hok) o h, fun h => ?_⟩
  have hb := kdS_bd o
  have hc : kdS o < 2 ∨ (2 ≤ kdS o ∧ kdS o < 4) ∨ (4 ≤ kdS o ∧ kdS o < 6) ∨ (6 ≤ kdS o ∧ kdS o < 8) ∨ 8 ≤ kdS o := by omega
  rcases hc with c | c | c | c | c
  · rw [runR_o l o hok hno c] at h ⊢; exact if_neg h
  · rw [runR_w l o hok hno c] at h ⊢; exact if_neg h
  · rw [runR_r l o hok hno c] at h ⊢; exact if_neg h
  · rw [runR_c l o hok hno c] at h ⊢; exact if_neg h
  · rw [runR_a l o hok hno c] at h; exact absurd rfl h
structure Small (l : Lg) : Prop where
  t : l.txs.length ≤ 25
  d : l.done.length ≤ 301
  g : l.log.length ≤ 401
  r : ∀ t ∈ l.txs, t.rs.length ≤ 401
theorem Small.fits {l : Lg} (h : Small l) : l.fits := ⟨⟨by have := h.t; omega, by have := h.d; omega, by have := h.g; omega⟩, fun t ht => by have := h.r t ht; omega⟩
theorem Small.eq {l : Lg} (h : Small l) : shortL l = l := by
  obtain ⟨a, b, c⟩ := l
  obtain ⟨h1, h2, h3, h4⟩ := h
  simp only at h1 h2 h3 h4
  unfold shortL
  simp only [List.take_of_length_le h1, List.take_of_length_le h2, List.take_of_length_le h3]
  congr 1
  conv => rhs; rw [← List.map_id a]
  refine List.map_congr_left fun t ht => ?_
  unfold shT
  rw [List.take_of_length_le (h4 t ht)]
  rfl
theorem small_short (l : Lg) : Small (shortL l) := by
  refine ⟨by simp [shortL]; omega, by simp [shortL]; omega, by simp [shortL]; omega, fun t ht => ?_⟩
  simp only [shortL, List.mem_map] at ht
  obtain ⟨q, -, rfl⟩ := ht
  simp [shT]; omega
theorem LOk.small {l : Lg} (h : LOk l) : Small l := by
  have h1 := h.t24
  have h2 := h.d300
  have h3 := lgOk_bd ((lgOk_iff l).2 h)
  exact ⟨by omega, by omega, by omega, fun t ht => by have := h3.2.2.2.2 t ht; omega⟩
theorem txlogDoes_a (x : Lg) (hx : x.good) (ops : List Op16) (hol : ops.length ≤ maxLen) (hog : ∀ o ∈ ops, o.good) (H : Heap) :
    ACall Try.prog 5 [.g (Lg.av x), .l 6 (ops.map Op16.av)] H fun r _ => r = .c (.bool true) := by
  have hwk := wakes16_p
  have hsx := short16_p x hx.1.1 hx.2.1.1 hx.2.2.1 (fun t ht => (hx.1.2 t ht).2.2.1)
  have hs0 := small_short x
  unfold maxLen at hol
  generalize shortL x = l0 at *
  obtain ⟨a, b, c⟩ := x
  obtain ⟨a0, b0, c0⟩ := l0
  have hlv : ∀ a b c, Lg.av ⟨a, b, c⟩ = [.l 5 (a.map Tx.av), .l 3 (b.map Nm.av), .l 3 (c.map Rec.av)] := fun _ _ _ => rfl
  rw [hlv, hlv] at hsx
  rw [hlv]
  clear hx
  replace hog := Lib.hid hog
  replace hs0 := Lib.hid hs0
  refine ACall_of' Try.func5 rfl (Ent_of Try.func5 (by kernel_rfl) rfl) (by simp [Try.ntmps5]) ?_; simp only [Try.ntmps5, Try.results5]
  repeat' (first
    | (refine AW_atB (id := 4) ?_)
    | refine AW_seq_kn fun K hK => ?_
    | refine AW_block ?_
    | (refine does_call rfl rfl ?_; simp only [push_cast, seval, *]; refine ACall.monoP (hwk _) ?_; (try simp only [push_cast, seval, *]))
    | (refine does_call rfl rfl ?_; simp only [push_cast, seval, *]; refine ACall.monoP (hsx _) ?_; (try simp only [push_cast, seval, *]))
    | ((first
      | refine AW_region_draw (id := 10) E0 (fun f => [].contains f) dLDQ0 dADQ0 mixed (by kernel_rfl) ?_
      | refine AW_region E0 ?_ | refine AW_ret ?_ | refine AW_exit ?_ | refine AW_skip ?_ | unfold retQ); try simp only [push_cast, seval, *])
    | ((first | (apply AW_cond; (case hc => (simp only [push_cast, seval]; rfl))) | (apply ER_guard; (case hb => (simp only [push_cast, seval]; rfl)))); all_goals ((intro hc; first | (exfalso; simp only [push_cast, seval, *] at hc; done) | (exact absurd hc (by decide)) | ((try first | rw [Bool.not_true] at hc | rw [Bool.not_false] at hc); first | (with_reducible replace hc := tTT hc); clear hc | (with_reducible replace hc := tFF hc); clear hc | (have hp := hc; try simp only [decide_eq_true_eq, decide_eq_false_iff_not, bA, bB, bC, bD, bE, bF, bG, bH] at hp))) <;> try simp only [push_cast, seval, *]))
    | (refine Kn.go hK ?_; clear hK K)
    | refine Kn.go (by assumption) ?_
    | (intro n hn; (try simp only [upd_none2, join_none_iff, ite_none, ne_eq] at hn); (try simp only [push_cast, seval, *]))
    | (intro hc)
    | (apply ER_blk; (case hp => rfl); (case hb => (simp only [push_cast, seval]; rfl)); (case hd => (simp only [push_cast, seval]; done)); (case h => (intro hc; simp only [push_cast, seval, *]; rfl)); simp only [push_cast, seval, *])
    | fail)
  refine ⟨?_⟩
  rename_i n2 h2
  generalize n = n5 at *
  have g5n : H n5 = none := hn.2
  have n52 : ¬ n5 = n2 := hn.1.1
  clear hwk hsx hn
  refine AW_seqC [] (fun _ => none) ?_ ?_
  rotate_left
  · repeat' (first
    | refine AW_seq_kn fun K hK => ?_
    | refine AW_block ?_
    | ((first
      | refine AW_region_draw (id := 10) E0 (fun f => [].contains f) dLDQ0 dADQ0 mixed (by kernel_rfl) ?_
      | refine AW_region E0 ?_ | refine AW_ret ?_ | refine AW_exit ?_ | refine AW_skip ?_ | unfold retQ); try simp only [push_cast, seval, *])
    | ((first | (apply AW_cond; (case hc => (simp only [push_cast, seval]; rfl))) | (apply ER_guard; (case hb => (simp only [push_cast, seval]; rfl)))); all_goals ((intro hc; first | (exfalso; simp only [push_cast, seval, *] at hc; done) | (exact absurd hc (by decide)) | ((try first | rw [Bool.not_true] at hc | rw [Bool.not_false] at hc); first | (with_reducible replace hc := tTT hc); clear hc | (with_reducible replace hc := tFF hc); clear hc | (have hp := hc; try simp only [decide_eq_true_eq, decide_eq_false_iff_not, bA, bB, bC, bD, bE, bF, bG, bH] at hp))) <;> try simp only [push_cast, seval, *]))
    | (refine Kn.go hK ?_; clear hK K)
    | refine Kn.go (by assumption) ?_
    | (intro n hn; (try simp only [upd_none2, join_none_iff, ite_none, ne_eq] at hn); (try simp only [push_cast, seval, *]))
    | (intro hc)
    | (apply ER_blk; (case hp => rfl); (case hb => (simp only [push_cast, seval]; rfl)); (case hd => (simp only [push_cast, seval]; done)); (case h => (intro hc; simp only [push_cast, seval, *]; rfl)); simp only [push_cast, seval, *])
    | fail)
    exact ⟨_, _, Weak.refl _ _, rfl⟩
  repeat' (first
    | refine AW_seq_kn fun K hK => ?_
    | refine AW_block ?_
    | ((first
      | refine AW_region_draw (id := 10) E0 (fun f => [].contains f) dLDQ0 dADQ0 mixed (by kernel_rfl) ?_
      | refine AW_region E0 ?_ | refine AW_ret ?_ | refine AW_exit ?_ | refine AW_skip ?_ | unfold retQ); try simp only [push_cast, seval, *])
    | ((first | (apply AW_cond; (case hc => (simp only [push_cast, seval]; rfl))) | (apply ER_guard; (case hb => (simp only [push_cast, seval]; rfl)))); all_goals ((intro hc; first | (exfalso; simp only [push_cast, seval, *] at hc; done) | (exact absurd hc (by decide)) | ((try first | rw [Bool.not_true] at hc | rw [Bool.not_false] at hc); first | (with_reducible replace hc := tTT hc); clear hc | (with_reducible replace hc := tFF hc); clear hc | (have hp := hc; try simp only [decide_eq_true_eq, decide_eq_false_iff_not, bA, bB, bC, bD, bE, bF, bG, bH] at hp))) <;> try simp only [push_cast, seval, *]))
    | (refine Kn.go hK ?_; clear hK K)
    | refine Kn.go (by assumption) ?_
    | (intro n hn; (try simp only [upd_none2, join_none_iff, ite_none, ne_eq] at hn); (try simp only [push_cast, seval, *]))
    | (intro hc)
    | (apply ER_blk; (case hp => rfl); (case hb => (simp only [push_cast, seval]; rfl)); (case hd => (simp only [push_cast, seval]; done)); (case h => (intro hc; simp only [push_cast, seval, *]; rfl)); simp only [push_cast, seval, *])
    | fail)
  refine AW_loopX (σ := Lg) ops.length (fun _ s => Small s) (fun k s => [(5, .p n5 3 0 0), (19, .l 6 (ops.map Op16.av)), (20, ci ops.length), (21, ci k)]) (fun _ s => upd H n5 (.r 47 3 1 [Lg.av s])) ⟨a0, b0, c0⟩ (unhid hs0) ?_ ?_ ?_ ?_
  · (first | trivial | (simp only [push_cast, seval, *]; done))
  · exact hle_upd2 (le_upd_new h2) _ _
  · clear hs0
    clear a b c a0 b0 c0
    rintro k s hk hsm
    have ho := List.getElem?_eq_getElem (l := ops) hk; generalize ops[k] = o at ho; have hom := List.mem_of_getElem? ho; have hkl : (k : Int) < ops.length := (by omega); have hkw : IntKind.i64.wrap ((k : Int) + 1) = (k : Int) + 1 := wrap_i64 (by omega) (by omega)
    have hgo := unhid hog o hom
    have hfit := hsm.fits
    have hsh := short16_p s (by have := hsm.t; unfold maxLen; omega) (by have := hsm.d; unfold maxLen; omega) (by have := hsm.g; unfold maxLen; omega) (fun t ht => by have := hsm.r t ht; unfold maxLen; omega)
    rw [hsm.eq] at hsh
    have hru := fun M => run_o o ⟨hgo.2.2.1.1, hgo.2.2.2.1⟩ s hfit M
    have hwa := wants_p o ⟨hgo.2.2.1.1, hgo.2.2.2.1⟩ s hfit
    obtain ⟨hp1, hp2⟩ := run_post s o
    have hsl := rSame_p s s hfit hfit
    rw [decide_eq_true rfl] at hsl
    generalize runR s o = R at *
    obtain ⟨R1, Rg, Re⟩ := R
    simp only at hp1 hp2 hru hwa
    have hRs : Small R1 := by
      by_cases e : Re = 0
      · exact (hp1 e).small
      · rw [hp2 e]; exact zeroL_ok.small
    have hRf := hRs.fits
    have hcp := Copy_p R1 hRf
    have hsR := rSame_p R1 R1 hRf hRf
    rw [decide_eq_true rfl] at hsR
    have hspo := fun x1 x2 x3 A G h => spoil_a R1 (by have := hRs.t; omega) (by have := hRs.d; omega) (by have := hRs.g; omega) (fun t ht => by have := hRs.r t ht; omega) x1 x2 x3 A G h
    have hlent := fun y1 y2 y3 S G (h : OwnG y1 y2 y3 R1 S G) M (hM : Heap.le S M) => ACall.lend (H := M) (args := [.g [y1, y2, y3], .g R1.av]) (args' := [.g R1.av, .g R1.av]) (Flat.c _) (show Lent _ _ _ ∧ Lent _ _ _ ∧ True from ⟨(OwnG_lent h).mono hM, Lent.refl _ _, trivial⟩) hsR.cl
    obtain ⟨kd, ⟨ns1, ns2, ns3⟩, nl, rl⟩ := o
    have hav : Op16.av ⟨kd, ⟨ns1, ns2, ns3⟩, nl, rl⟩ = [.c (.int .i64 kd), .c (.int .i64 ns1), .c (.int .i64 ns2), .c (.int .i64 ns3), .l 3 (nl.map Nm.av), .l 3 (rl.map Rec.av)] := rfl
    obtain ⟨a, b, c⟩ := s
    obtain ⟨a', b', c'⟩ := R1
    simp only [hlv, hav] at hru hsh hwa hcp hlent hsl ⊢
    clear hgo hfit hom hp1 hp2 hRf hsR
    replace hsm := Lib.hid hsm
    replace hRs := Lib.hid hRs
    by_cases h30 : (k : Int) = 30
    · have e30 : k = 30 := by omega
      have ho30 := ho
      rw [e30] at ho30
      clear e30
      have hl30 : (30 : Int) < ops.length := by omega
      clear hru hsh hwa hcp hlent hsl hspo
      repeat' (first
    | refine AW_seq_kn fun K hK => ?_
    | refine AW_block ?_
    | ((first
      | refine AW_region_draw (id := 10) E0 (fun f => [].contains f) dLDQ0 dADQ0 mixed (by kernel_rfl) ?_
      | refine AW_region E0 ?_ | refine AW_ret ?_ | refine AW_exit ?_ | refine AW_skip ?_ | unfold retQ); try simp only [push_cast, seval, *])
    | ((first | (apply AW_cond; (case hc => (simp only [push_cast, seval]; rfl))) | (apply ER_guard; (case hb => (simp only [push_cast, seval]; rfl)))); all_goals ((intro hc; first | (exfalso; simp only [push_cast, seval, *] at hc; done) | (exact absurd hc (by decide)) | ((try first | rw [Bool.not_true] at hc | rw [Bool.not_false] at hc); first | (with_reducible replace hc := tTT hc); clear hc | (with_reducible replace hc := tFF hc); clear hc | (have hp := hc; try simp only [decide_eq_true_eq, decide_eq_false_iff_not, bA, bB, bC, bD, bE, bF, bG, bH] at hp))) <;> try simp only [push_cast, seval, *]))
    | (refine Kn.go hK ?_; clear hK K)
    | refine Kn.go (by assumption) ?_
    | (intro n hn; (try simp only [upd_none2, join_none_iff, ite_none, ne_eq] at hn); (try simp only [push_cast, seval, *]))
    | (intro hc)
    | (apply ER_blk; (case hp => rfl); (case hb => (simp only [push_cast, seval]; rfl)); (case hd => (simp only [push_cast, seval]; done)); (case h => (intro hc; simp only [push_cast, seval, *]; rfl)); simp only [push_cast, seval, *])
    | fail)
      exact ⟨trivial, by first | trivial | (first | trivial | (simp only [push_cast, seval, *]; done)), by first | trivial | exact fun q u h => by cases h⟩
    replace hru := Lib.hid hru
    replace hspo := Lib.hid hspo
    replace hlent := Lib.hid hlent
    repeat' (first
    | refine AW_seq_kn fun K hK => ?_
    | refine AW_block ?_
    | (refine does_call rfl rfl ?_; simp only [push_cast, seval, *]; refine ACall.monoP (hsh _) ?_; (try simp only [push_cast, seval, *]))
    | ((first
      | refine AW_region_draw (id := 10) E0 (fun f => [].contains f) dLDQ0 dADQ0 mixed (by kernel_rfl) ?_
      | refine AW_region E0 ?_ | refine AW_ret ?_ | refine AW_exit ?_ | refine AW_skip ?_ | unfold retQ); try simp only [push_cast, seval, *])
    | ((first | (apply AW_cond; (case hc => (simp only [push_cast, seval]; rfl))) | (apply ER_guard; (case hb => (simp only [push_cast, seval]; rfl)))); all_goals ((intro hc; first | (exfalso; simp only [push_cast, seval, *] at hc; done) | (exact absurd hc (by decide)) | ((try first | rw [Bool.not_true] at hc | rw [Bool.not_false] at hc); first | (with_reducible replace hc := tTT hc); clear hc | (with_reducible replace hc := tFF hc); clear hc | (have hp := hc; try simp only [decide_eq_true_eq, decide_eq_false_iff_not, bA, bB, bC, bD, bE, bF, bG, bH] at hp))) <;> try simp only [push_cast, seval, *]))
    | (refine Kn.go hK ?_; clear hK K)
    | refine Kn.go (by assumption) ?_
    | (intro n hn; (try simp only [upd_none2, join_none_iff, ite_none, ne_eq] at hn); (try simp only [push_cast, seval, *]))
    | (intro hc)
    | (apply ER_blk; (case hp => rfl); (case hb => (simp only [push_cast, seval]; rfl)); (case hd => (simp only [push_cast, seval]; done)); (case h => (intro hc; simp only [push_cast, seval, *]; rfl)); simp only [push_cast, seval, *])
    | fail)
    rename_i n7 h7
    generalize n = n8 at *
    have x75 : ¬ n7 = n5 := h7.1.1
    have x57 : ¬ n5 = n7 := h7.1.2
    have x87 : ¬ n8 = n7 := hn.1.1
    have x78 : ¬ n7 = n8 := hn.1.2
    have x85 : ¬ n8 = n5 := hn.2.1.1
    have x58 : ¬ n5 = n8 := hn.2.1.2
    have g7n : H n7 = none := h7.2
    have g8n : H n8 = none := hn.2.2
    obtain ⟨G, hG⟩ : ∃ G : Heap, G = upd (upd (upd H n5 (.r 47 3 1 [[.l 5 (a.map Tx.av), .l 3 (b.map Nm.av), .l 3 (c.map Rec.av)]])) n7 (.r 51 6 1 [[.c (.int .i64 kd), .c (.int .i64 ns1), .c (.int .i64 ns2), .c (.int .i64 ns3), .l 3 (nl.map Nm.av), .l 3 (rl.map Rec.av)]])) n8 (.r 47 3 1 [[.l 5 (a.map Tx.av), .l 3 (b.map Nm.av), .l 3 (c.map Rec.av)]]) := ⟨_, rfl⟩
    have g5 : G n5 = some (.r 47 3 1 [[.l 5 (a.map Tx.av), .l 3 (b.map Nm.av), .l 3 (c.map Rec.av)]]) := by rw [hG, upd_ne x58, upd_ne x57, upd_same]
    have g7 : G n7 = some (.r 51 6 1 [[.c (.int .i64 kd), .c (.int .i64 ns1), .c (.int .i64 ns2), .c (.int .i64 ns3), .l 3 (nl.map Nm.av), .l 3 (rl.map Rec.av)]]) := by rw [hG, upd_ne x78, upd_same]
    have g8 : G n8 = some (.r 47 3 1 [[.l 5 (a.map Tx.av), .l 3 (b.map Nm.av), .l 3 (c.map Rec.av)]]) := by rw [hG, upd_same]
    have hle : Heap.le H G := by rw [hG]; (repeat' (first | exact Heap.le_refl _ | refine hle_upd2 ?_ _ _ | (refine Heap.le_new ?_ ?_; rotate_left 1; focus (first | assumption | (simp only [upd_none2, upd_get, ne_eq, push_cast, seval, *]; done) | (simp [upd_get, *]; done)))))
    have hle5 : Heap.le (upd H n5 (.r 47 3 1 [[.l 5 (a.map Tx.av), .l 3 (b.map Nm.av), .l 3 (c.map Rec.av)]])) G := by
      rw [hG]; exact Heap.le_trans (le_upd_new (by rw [upd_ne x75]; exact g7n)) (le_upd_new (by rw [upd_ne x87, upd_ne x85]; exact g8n))
    rw [← hG]
    clear hG h7 hn
    refine does_call rfl rfl ?_
    simp only [push_cast, seval, *]
    refine ACall.mono (unhid hru G) ?_
    rintro _ S ⟨y1, y2, y3, rfl, hO⟩
    have s5 := (OwnG_loc _ _ _ _).get hO g5
    have s7 := (OwnG_loc _ _ _ _).get hO g7
    have s8 := (OwnG_loc _ _ _ _).get hO g8
    obtain ⟨⟨u1, u2, u3⟩, w1, w2, w3⟩ := OwnG_cs hO
    have hsn := fun M hM => unhid hlent y1 y2 y3 S G hO M hM
    have o5 := ne_old s5
    have o7 := ne_old s7
    have o8 := ne_old s8
    replace hO := Lib.hid hO
    replace hle := Lib.hid hle
    replace hle5 := Lib.hid hle5
    replace hsn := Lib.hid hsn
    clear hru hlent
    (try simp only [push_cast, seval, *])
    repeat' (first
    | refine AW_seq_kn fun K hK => ?_
    | refine AW_block ?_
    | (refine does_call rfl rfl ?_; simp only [push_cast, seval, *]; refine ACall.monoP (hsh _) ?_; (try simp only [push_cast, seval, *]))
    | (refine does_call rfl rfl ?_; simp only [push_cast, seval, *]; refine ACall.monoP (hwa _) ?_; (try simp only [push_cast, seval, *]))
    | (refine does_call rfl rfl ?_; simp only [push_cast, seval, *]; refine ACall.monoP (hsl _) ?_; (try simp only [push_cast, seval, *]))
    | (refine does_call rfl rfl ?_; simp only [push_cast, seval, *]; refine ACall.monoP (hcp _) ?_; (try simp only [push_cast, seval, *]))
    | (refine does_call rfl rfl ?_; simp only [push_cast, seval, *]; refine ACall.mono (unhid hsn _ (by (repeat' (first | exact Heap.le_refl _ | refine hle_upd2 ?_ _ _ | (refine Heap.le_new ?_ ?_; rotate_left 1; focus (first | assumption | (simp only [upd_none2, upd_get, ne_eq, push_cast, seval, *]; done) | (simp [upd_get, *]; done))))))) ?_; (rintro _ _ ⟨rfl, e2⟩; have e3 := e2.symm; clear e2; subst e3); (try simp only [push_cast, seval, *]))
    | ((first
      | refine AW_region_draw (id := 10) E0 (fun f => [].contains f) dLDQ0 dADQ0 mixed (by kernel_rfl) ?_
      | refine AW_region E0 ?_ | refine AW_ret ?_ | refine AW_exit ?_ | refine AW_skip ?_ | unfold retQ); try simp only [push_cast, seval, *])
    | ((first | (apply AW_cond; (case hc => (simp only [push_cast, seval]; rfl))) | (apply ER_guard; (case hb => (simp only [push_cast, seval]; rfl)))); all_goals ((intro hc; first | (exfalso; simp only [push_cast, seval, *] at hc; done) | (exact absurd hc (by decide)) | ((try first | rw [Bool.not_true] at hc | rw [Bool.not_false] at hc); first | (with_reducible replace hc := tTT hc); clear hc | (with_reducible replace hc := tFF hc); clear hc | (have hp := hc; try simp only [decide_eq_true_eq, decide_eq_false_iff_not, bA, bB, bC, bD, bE, bF, bG, bH] at hp))) <;> try simp only [push_cast, seval, *]))
    | (refine Kn.go hK ?_; clear hK K)
    | refine Kn.go (by assumption) ?_
    | (intro n hn; (try simp only [upd_none2, join_none_iff, ite_none, ne_eq] at hn); (try simp only [push_cast, seval, *]))
    | (intro hc)
    | (apply ER_blk; (case hp => rfl); (case hb => (simp only [push_cast, seval]; rfl)); (case hd => (simp only [push_cast, seval]; done)); (case h => (intro hc; simp only [push_cast, seval, *]; rfl)); simp only [push_cast, seval, *])
    | fail)
    rename_i n9 h9
    generalize n = n12 at *
    obtain ⟨c9, hc9⟩ : ∃ c9 : Blk, c9 = .r 47 3 1 [[y1, y2, y3]] := ⟨_, rfl⟩
    obtain ⟨c12, hc12⟩ : ∃ c12 : Blk, c12 = .r 47 3 1 [[.l 5 (a'.map Tx.av), .l 3 (b'.map Nm.av), .l 3 (c'.map Rec.av)]] := ⟨_, rfl⟩
    have hS12 : upd S n9 c9 n12 = none := by rw [upd_ne hn.1.1]; exact hn.2
    have hO1 := (OwnG_loc _ _ _ _).new (unhid hO) h9 c9
    have hO2 := (OwnG_loc _ _ _ _).new hO1 hS12 c12
    have hG9 := (OwnG_loc _ _ _ _).old (unhid hO) h9
    have hG12 := (OwnG_loc _ _ _ _).old hO1 hS12
    have hGle : Heap.le G (upd (upd G n9 c9) n12 c12) := Heap.le_trans (le_upd_new hG9) (le_upd_new hG12)
    rw [hc9, hc12] at hO2
    refine does_call rfl rfl ?_
    simp only [push_cast, seval, *]
    refine ACall.mono (unhid hspo y1 y2 y3 _ _ hO2) ?_
    intro rr A' hle'
    rw [← hc9, ← hc12] at hle'
    have hG2 := Heap.le_trans hGle hle'
    have a5 := hG2 _ _ g5
    have a8 := hG2 _ _ g8
    have a12 := hle' _ _ (upd_same _ n12 c12)
    rw [hc12] at a12
    have p5 := ne_old a5
    have f1 := Heap.le_trans (unhid hle5) hG2
    have f2 := Heap.le_trans (unhid hle) hG2
    replace f1 := Lib.hid f1
    replace f2 := Lib.hid f2
    clear hO hO1 hO2 hG9 hG12 hGle hle' hG2 hS12 h9 hn hc9 hc12 s5 s7 s8 o5 o7 o8 hspo hsn hwa hsh hcp g7
    by_cases hRe : Re = 0
    · subst hRe
      (try simp only [push_cast, seval, *])
      repeat' (first
    | refine AW_seq_kn fun K hK => ?_
    | refine AW_block ?_
    | (refine does_call rfl rfl ?_; simp only [push_cast, seval, *]; refine ACall.monoP (hsl _) ?_; (try simp only [push_cast, seval, *]))
    | ((first
      | refine AW_region_draw (id := 10) E0 (fun f => [].contains f) dLDQ0 dADQ0 mixed (by kernel_rfl) ?_
      | refine AW_region E0 ?_ | refine AW_ret ?_ | refine AW_exit ?_ | refine AW_skip ?_ | unfold retQ); try simp only [push_cast, seval, *])
    | ((first | (apply AW_cond; (case hc => (simp only [push_cast, seval]; rfl))) | (apply ER_guard; (case hb => (simp only [push_cast, seval]; rfl)))); all_goals ((intro hc; first | (exfalso; simp only [push_cast, seval, *] at hc; done) | (exact absurd hc (by decide)) | ((try first | rw [Bool.not_true] at hc | rw [Bool.not_false] at hc); first | (with_reducible replace hc := tTT hc); clear hc | (with_reducible replace hc := tFF hc); clear hc | (have hp := hc; try simp only [decide_eq_true_eq, decide_eq_false_iff_not, bA, bB, bC, bD, bE, bF, bG, bH] at hp))) <;> try simp only [push_cast, seval, *]))
    | (refine Kn.go hK ?_; clear hK K)
    | refine Kn.go (by assumption) ?_
    | (intro n hn; (try simp only [upd_none2, join_none_iff, ite_none, ne_eq] at hn); (try simp only [push_cast, seval, *]))
    | (intro hc)
    | (apply ER_blk; (case hp => rfl); (case hb => (simp only [push_cast, seval]; rfl)); (case hd => (simp only [push_cast, seval]; done)); (case h => (intro hc; simp only [push_cast, seval, *]; rfl)); simp only [push_cast, seval, *])
    | fail)
      exact ⟨⟨a', b', c'⟩, unhid hRs, by (first | trivial | (simp only [push_cast, seval, *]; done)), by first | exact ⟨rfl, unhid f2⟩ | exact hle_upd2 (unhid f2) _ _⟩
    · (try simp only [push_cast, seval, *])
      repeat' (first
    | refine AW_seq_kn fun K hK => ?_
    | refine AW_block ?_
    | (refine does_call rfl rfl ?_; simp only [push_cast, seval, *]; refine ACall.monoP (hsl _) ?_; (try simp only [push_cast, seval, *]))
    | ((first
      | refine AW_region_draw (id := 10) E0 (fun f => [].contains f) dLDQ0 dADQ0 mixed (by kernel_rfl) ?_
      | refine AW_region E0 ?_ | refine AW_ret ?_ | refine AW_exit ?_ | refine AW_skip ?_ | unfold retQ); try simp only [push_cast, seval, *])
    | ((first | (apply AW_cond; (case hc => (simp only [push_cast, seval]; rfl))) | (apply ER_guard; (case hb => (simp only [push_cast, seval]; rfl)))); all_goals ((intro hc; first | (exfalso; simp only [push_cast, seval, *] at hc; done) | (exact absurd hc (by decide)) | ((try first | rw [Bool.not_true] at hc | rw [Bool.not_false] at hc); first | (with_reducible replace hc := tTT hc); clear hc | (with_reducible replace hc := tFF hc); clear hc | (have hp := hc; try simp only [decide_eq_true_eq, decide_eq_false_iff_not, bA, bB, bC, bD, bE, bF, bG, bH] at hp))) <;> try simp only [push_cast, seval, *]))
    | (refine Kn.go hK ?_; clear hK K)
    | refine Kn.go (by assumption) ?_
    | (intro n hn; (try simp only [upd_none2, join_none_iff, ite_none, ne_eq] at hn); (try simp only [push_cast, seval, *]))
    | (intro hc)
    | (apply ER_blk; (case hp => rfl); (case hb => (simp only [push_cast, seval]; rfl)); (case hd => (simp only [push_cast, seval]; done)); (case h => (intro hc; simp only [push_cast, seval, *]; rfl)); simp only [push_cast, seval, *])
    | fail)
      exact ⟨⟨a, b, c⟩, unhid hsm, by (first | trivial | (simp only [push_cast, seval, *]; done)), by first | exact ⟨rfl, unhid f2⟩ | exact unhid f1⟩
  · rintro s hsm
    repeat' (first
    | refine AW_seq_kn fun K hK => ?_
    | refine AW_block ?_
    | ((first
      | refine AW_region_draw (id := 10) E0 (fun f => [].contains f) dLDQ0 dADQ0 mixed (by kernel_rfl) ?_
      | refine AW_region E0 ?_ | refine AW_ret ?_ | refine AW_exit ?_ | refine AW_skip ?_ | unfold retQ); try simp only [push_cast, seval, *])
    | ((first | (apply AW_cond; (case hc => (simp only [push_cast, seval]; rfl))) | (apply ER_guard; (case hb => (simp only [push_cast, seval]; rfl)))); all_goals ((intro hc; first | (exfalso; simp only [push_cast, seval, *] at hc; done) | (exact absurd hc (by decide)) | ((try first | rw [Bool.not_true] at hc | rw [Bool.not_false] at hc); first | (with_reducible replace hc := tTT hc); clear hc | (with_reducible replace hc := tFF hc); clear hc | (have hp := hc; try simp only [decide_eq_true_eq, decide_eq_false_iff_not, bA, bB, bC, bD, bE, bF, bG, bH] at hp))) <;> try simp only [push_cast, seval, *]))
    | (refine Kn.go hK ?_; clear hK K)
    | refine Kn.go (by assumption) ?_
    | (intro n hn; (try simp only [upd_none2, join_none_iff, ite_none, ne_eq] at hn); (try simp only [push_cast, seval, *]))
    | (intro hc)
    | (apply ER_blk; (case hp => rfl); (case hb => (simp only [push_cast, seval]; rfl)); (case hd => (simp only [push_cast, seval]; done)); (case h => (intro hc; simp only [push_cast, seval, *]; rfl)); simp only [push_cast, seval, *])
    | fail)
    exact ⟨trivial, by first | trivial | (first | trivial | (simp only [push_cast, seval, *]; done)), by first | trivial | exact fun q u h => by cases h⟩
end Go.Proofs.Ytdeckjoeggmagaa
