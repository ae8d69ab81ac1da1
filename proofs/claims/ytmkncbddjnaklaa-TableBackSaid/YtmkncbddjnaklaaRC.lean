/- Walks: Decode. -/
import Derived.Test.YtmkncbddjnaklaaRA
import Derived.Test.YtmkncbddjnaklaaUE
import Derived.Test.YtmkncbddjnaklaaTD
namespace Go.Proofs.Ytmkncbddjnaklaa
open Go.RowKit
open Nat renaming reduceEqDiff → nA, reduceLT → nB, reduceLeDiff → nC, reduceAdd → nD, reduceMul → nE, reduceSub → nF, reduceBEq → nG
open Int renaming reduceToNat → iA, reduceLT → iB, reduceLE → iC, reduceEq → iD
open Bool renaming and_eq_true → bA, or_eq_true → bB, or_eq_false_iff → bC, and_eq_false_iff → bD, not_eq_true' → bE, not_eq_false' → bF, not_true → bG, not_false → bH
set_option linter.all false
set_option maxHeartbeats 4000000
attribute [local irreducible] AW Does ACall tE tS tB tZ
def dLRC0 : List En := [(0, false, []), (1, false, []), (2, false, []), (3, false, []), (4, false, []), (5, false, []), (6, false, []), (7, false, []), (8, false, []), (9, false, []), (10, false, [])]
def dARC0 : List (List Nat) := [[], [0], [0, 1], [0, 1, 2], [0, 1, 2, 3], [], [5], [5, 6], [5, 6, 7], [0, 1, 2, 3, 4, 5, 6, 7, 8], [0, 1, 2, 3, 4, 5, 6, 7, 8, 9]]
attribute [push_cast] dLRC0
def dLRC1 : List En := [(0, false, []), (1, true, []), (2, false, []), (5, false, []), (8, false, []), (11, false, []), (3, false, [1]), (4, false, []), (6, false, [1]), (7, false, []), (9, false, [1]), (10, false, []), (12, false, [1]), (13, false, []), (14, false, []), (15, false, []), (16, false, []), (17, false, []), (18, false, []), (19, false, [])]
def dARC1 : List (List Nat) := [[], [0], [], [2], [2, 3], [], [2, 3, 5], [2, 3, 5, 6], [], [2, 3, 5, 6, 8], [2, 3, 5, 6, 8, 9], [], [2, 3, 5, 6, 8, 9, 11], [2, 3, 5, 6, 8, 9, 11, 12], [2, 3, 5, 6, 8, 9, 10, 11, 12, 13], [2, 3, 4, 5, 6, 7, 8, 9, 10, 11, 12, 13, 14], [2, 3, 4, 5, 6, 7, 8, 9, 10, 11, 12, 13, 14, 15], [0, 1, 2, 3, 4, 5, 6, 7, 8, 9, 10, 11, 12, 13, 14, 15, 16], [0, 1, 2, 3, 4, 5, 6, 7, 8, 9, 10, 11, 12, 13, 14, 15, 16, 17], [0, 1, 2, 3, 4, 5, 6, 7, 8, 9, 10, 11, 12, 13, 14, 15, 16, 17, 18]]
attribute [push_cast] dLRC1

theorem bytesEq_p (a b : List Int) (ha : octs a) (hb : octs b) : Pure Try.prog 57 [.l 1 (a.map by1), .l 1 (b.map by1)] (.c (.bool (decide (a = b)))) := by
  intro H
  have hR := str_beq ha hb
  have h1 := tU88
  have h2 := tU5
  have h3 := tU9
  refine ACall_of' Try.func57 rfl (Ent_of Try.func57 (by kernel_rfl) rfl) (by simp [Try.ntmps57]) ?_; simp only [Try.ntmps57, Try.results57]
  repeat' (first
    | refine AW_seq_kn fun K hK => ?_
    | refine AW_block ?_
    | (refine does_b2s rfl rfl h1 h2 h3 ?_; (try simp only [push_cast, seval, *]))
    | ((first
      | refine AW_region E0 ?_ | refine AW_ret ?_ | refine AW_exit ?_ | refine AW_skip ?_ | unfold retQ); try simp only [push_cast, seval, *])
    | (apply AW_cond; (case hc => (simp only [push_cast, seval]; rfl)); all_goals (intro hc; first | (exfalso; simp only [push_cast, seval, *] at hc; done) | (exact absurd hc (by decide)) | ((try first | rw [Bool.not_true] at hc | rw [Bool.not_false] at hc); first | (with_reducible replace hc := tTT hc); clear hc | (with_reducible replace hc := tFF hc); clear hc | (have hp := hc; try simp only [decide_eq_true_eq, decide_eq_false_iff_not, bA, bB, bC, bD, bE, bF, bG, bH] at hp))))
    | (refine Kn.go hK ?_; clear hK K)
    | refine Kn.go (by assumption) ?_
    | (intro n hn; (try simp only [upd_none2, join_none_iff, ite_none, ne_eq] at hn); (try simp only [push_cast, seval, *]))
    | (intro hc)
    | fail)
  exact ⟨_, _, Weak.refl _ _, by simp [hR], rfl⟩
theorem rowB_octs (x : KC) (h : recOk (keyS x) = true) : octs (rowB x) := by
  have h : recOk ⟨x.s, x.k, 0⟩ = true := h
  simp only [recOk, Bool.and_eq_true, decide_eq_true_eq] at h
  unfold rowB
  refine octs.append (octs.append (fun y hy => ?_) (beB_octs _ _)) (beB_octs _ _)
  simp at hy
  rcases hy with rfl | rfl <;> omega
theorem encB_octs (l : List KC) (h : tOk l = true) : octs (encB l) := by
  refine octs.append (beB_octs _ _) (fun y hy => ?_)
  obtain ⟨x, hx, hy⟩ := List.mem_flatMap.1 hy
  exact rowB_octs x (tGo_ok l none h x hx).1 y hy
theorem flatT2 (e : Int) : ∀ y, Flat y → Flat (.t [y, .c (.int .i64 e)]) := fun y hy => Flat.t (by
  intro x hx
  simp only [List.mem_cons, List.not_mem_nil, or_false] at hx
  rcases hx with rfl | rfl
  · exact hy
  · exact Flat.c _)
/-- Encode of a table that the caller owns; the bytes frozen -/
theorem Encode_l (l : List KC) (hl : l.length ≤ 50000) (x : AV) (B B0 : Heap) (hown : OwnL B x 80 4 (l.map KC.av) B0) :
    ACall Try.prog 56 [.g [x]] B fun q H' => q = .t [.l 1 ((encE l).1.map by1), .c (.int .i64 (encE l).2)] ∧ H' = B := by
  have h1 : Lents B [x] [.l 4 (l.map KC.av)] := (show Lent _ _ _ ∧ True from ⟨hown.lent, trivial⟩)
  have h2 : Lents B [.g [x]] [.g [.l 4 (l.map KC.av)]] := (show Lent _ _ _ ∧ True from ⟨Lent.g h1 (by simp [AV.one]), trivial⟩)
  exact ACall.weak ((ACall.lendT (R := fun y => .t [y, .c (.int .i64 (encE l).2)]) (flatT2 _) (flatR_by1 (encE l).1) h2 (Encode_o l hl _)).mono fun q H' h => by
    obtain ⟨y, rfl, h1⟩ := h
    exact ⟨_, _, h1.weak fun F F' hF hi _ => Imp.t (Imps.cons hi (fun _ => rfl) (Imps.cons (Imp.refl hF _) id Imps.nil)), rfl, rfl⟩)
def rowP (b : List Int) : KC := ⟨b.getD 0 0, b.getD 1 0, IntKind.i64.wrap (numB ((b.drop 2).take 8)), IntKind.i64.wrap (numB ((b.drop 10).take 8))⟩
def parseS (b : List Int) (k : Nat) : List KC := (List.range k).map fun i => rowP (b.drop (18 * i))
theorem parse_succ (b : List Int) (k : Nat) : parseS b (k + 1) = parseS b k ++ [rowP (b.drop (18 * k))] := by simp [parseS, List.range_succ]
theorem parse_len (b : List Int) (k : Nat) : (parseS b k).length = k := by simp [parseS]
def cntB (b : List Int) : Nat := (numB (b.take 2)).toNat
def decS (b : List Int) : List KC × Int := if b.length < 2 then ([], 7) else if b.length < 2 + 18 * cntB b then ([], 7)
  else if (encE (parseS (b.drop 2) (cntB b))).2 = 0 ∧ (encE (parseS (b.drop 2) (cntB b))).1 = b then (parseS (b.drop 2) (cntB b), 0) else ([], 220)
theorem orI (x y : Int) (h0 : 0 ≤ x) (h1 : x < 256) (h2 : 0 ≤ y) (h3 : y < 256) : bits .or .i64 (x * 256) y = x * 256 + y :=
  bits_join .i64 62 (by decide) (fun n h0 h1 => by rw [wrap_i64 (by omega) (by omega)]) 8 (x * 256) y (by omega) (by omega) (by omega) h2 (by omega) (by omega)
theorem binV_shlI (x : Int) (k' : IntKind) (t : TypeId) (h0 : 0 ≤ x) (h1 : x < 256) : binV Try.prog .shl t (.c (.int .i64 x)) (.c (.int k' 8)) = some (.c (.int .i64 (x * 256))) := by
  unfold binV
  simp only [show (0 : Int) ≤ 8 by decide, if_true, show min (8 : Int).toNat IntKind.i64.bits = 8 from rfl, ite_self]
  rw [show (2 : Int) ^ 8 = 256 from rfl, wrap_i64 (by omega) (by omega)]
theorem nil_tab4 {F : Mem} {e : AV} : Imp F F (.t [.g [.c (.slice none 0 0)], e]) (.t [.g [.l 4 []], e]) := Imp.t (Imps.cons (Imp.g (Imps.cons (Imp.nil_l 4) (fun _ => rfl) Imps.nil)) id (Imps.cons (Imp.refl (Mem.le.refl F) _) id Imps.nil))
theorem upd_mix {G : Heap} {m q : Nat} {a c r d : Blk} (h : ¬ m = q) : upd (upd (upd (upd G m a) q c) m r) q d = upd (upd G m r) q d := by
  funext z
  simp only [upd]
  by_cases e1 : z = q
  · simp [e1]
  · by_cases e2 : z = m <;> simp [e1, e2]
theorem encE_octs (l : List KC) : octs (encE l).1 := by
  unfold encE
  split
  · rename_i h; exact encB_octs l h
  · exact octs.nil
theorem two_of {b : List Int} (h : ¬ b.length < 2) : ∃ x y r, b = x :: y :: r := by
  match b, h with
  | x :: y :: r, _ => exact ⟨x, y, r, rfl⟩
  | [x], h => exact absurd (by simp) h
  | [], h => exact absurd (by simp) h
theorem Decode_o (b : List Int) (ho : octs b) (hb : b.length ≤ 800000) (H : Heap) :
    ACall Try.prog 59 [.l 1 (b.map by1)] H fun q H' => q = .t [.g [.l 4 ((decS b).1.map KC.av)], .c (.int .i64 (decS b).2)] ∧ H' = H := by
  have hD : decS b = if b.length < 2 then ([], 7) else if b.length < 2 + 18 * cntB b then ([], 7)
    else if (encE (parseS (b.drop 2) (cntB b))).2 = 0 ∧ (encE (parseS (b.drop 2) (cntB b))).1 = b then (parseS (b.drop 2) (cntB b), 0) else ([], 220) := rfl
  generalize decS b = D at *
  obtain ⟨D1, D2⟩ := D
  by_cases h2 : b.length < 2
  · rw [if_pos h2, Prod.mk.injEq] at hD
    obtain ⟨rfl, rfl⟩ := hD
    have h2T : ((b.length : Int) < 2) = True := by simp; omega
    refine ACall_of' Try.func59 rfl (Ent_of Try.func59 (by kernel_rfl) rfl) (by simp [Try.ntmps59]) ?_; simp only [Try.ntmps59, Try.results59]
    repeat' (first
    | refine AW_seq_kn fun K hK => ?_
    | refine AW_block ?_
    | ((first
      | refine AW_region_draw (id := 3) E0 (fun f => [].contains f) dLRC0 dARC0 mixed (by kernel_rfl) ?_
      | refine AW_region_draw (id := 10) E0 (fun f => [].contains f) dLRC1 dARC1 mixed (by kernel_rfl) ?_
      | refine AW_region E0 ?_ | refine AW_ret ?_ | refine AW_exit ?_ | refine AW_skip ?_ | unfold retQ); try simp only [push_cast, seval, *])
    | ((first | (apply AW_cond; (case hc => (simp only [push_cast, seval]; rfl))) | (apply ER_guard; (case hb => (simp only [push_cast, seval]; rfl)))); all_goals ((intro hc; first | (exfalso; simp only [push_cast, seval, *] at hc; done) | (exact absurd hc (by decide)) | ((try first | rw [Bool.not_true] at hc | rw [Bool.not_false] at hc); first | (with_reducible replace hc := tTT hc); clear hc | (with_reducible replace hc := tFF hc); clear hc | (have hp := hc; try simp only [decide_eq_true_eq, decide_eq_false_iff_not, bA, bB, bC, bD, bE, bF, bG, bH] at hp))) <;> try simp only [push_cast, seval, *]))
    | (refine Kn.go hK ?_; clear hK K)
    | refine Kn.go (by assumption) ?_
    | (intro n hn; (try simp only [upd_none2, join_none_iff, ite_none, ne_eq] at hn); (try simp only [push_cast, seval, *]))
    | (intro hc)
    | (apply ER_blk; (case hp => rfl); (case hb => (simp only [push_cast, seval]; rfl)); (case hd => (simp only [push_cast, seval]; done)); (case h => (intro hc; simp only [push_cast, seval, *]; rfl)); simp only [push_cast, seval, *])
    | fail)
    exact ⟨_, _, Weak.imp (fun F => nil_tab4) (by (simp only [push_cast, seval, *])), rfl, rfl⟩
  rw [if_neg h2] at hD
  have h2F : ((b.length : Int) < 2) = False := by simp; omega
  obtain ⟨b0, b1, r0, hbe⟩ := two_of h2
  have hg0 : b[0]? = some b0 := by rw [hbe]; rfl
  have hg1 : b[1]? = some b1 := by rw [hbe]; rfl
  have ho0 := ho b0 (by rw [hbe]; simp)
  have ho1 := ho b1 (by rw [hbe]; simp)
  have hN : ((cntB b : Nat) : Int) = b0 * 256 + b1 := by
    unfold cntB
    rw [hbe]
    simp [numB]
    omega
  have hN2 : cntB b ≤ 65535 := by omega
  have hor := orI b0 b1 (by omega) (by omega) (by omega) (by omega)
  rw [← hN] at hor
  have hshl := fun k' t => binV_shlI b0 k' t (by omega) (by omega)
  have hc0 : IntKind.i64.wrap b0 = b0 := wrap_i64 (by omega) (by omega)
  have hc1 : IntKind.i64.wrap b1 = b1 := wrap_i64 (by omega) (by omega)
  have hy0 : by1 b0 = [.c (.int .u8 b0)] := rfl
  have hy1 : by1 b1 = [.c (.int .u8 b1)] := rfl
  have hl0 : (0 : Int) < b.length := by omega
  have hl1 : (1 : Int) < b.length := by omega
  have hl2 : (2 : Int) ≤ b.length := by omega
  generalize cntB b = N at *
  have hw1 : IntKind.i64.wrap (18 * (N : Int)) = 18 * (N : Int) := wrap_i64 (by omega) (by omega)
  have hw2 : IntKind.i64.wrap (2 + 18 * (N : Int)) = 2 + 18 * (N : Int) := wrap_i64 (by omega) (by omega)
  generalize b0 * 256 = z0 at *
  clear hbe ho0 ho1 hN
  by_cases h3 : b.length < 2 + 18 * N
  · rw [if_pos h3, Prod.mk.injEq] at hD
    obtain ⟨rfl, rfl⟩ := hD
    have h3T : ((b.length : Int) < 2 + 18 * (N : Int)) = True := by simp; omega
    refine ACall_of' Try.func59 rfl (Ent_of Try.func59 (by kernel_rfl) rfl) (by simp [Try.ntmps59]) ?_; simp only [Try.ntmps59, Try.results59]
    repeat' (first
    | refine AW_seq_kn fun K hK => ?_
    | refine AW_block ?_
    | ((first
      | refine AW_region_draw (id := 3) E0 (fun f => [].contains f) dLRC0 dARC0 mixed (by kernel_rfl) ?_
      | refine AW_region_draw (id := 10) E0 (fun f => [].contains f) dLRC1 dARC1 mixed (by kernel_rfl) ?_
      | refine AW_region E0 ?_ | refine AW_ret ?_ | refine AW_exit ?_ | refine AW_skip ?_ | unfold retQ); try simp only [push_cast, seval, *])
    | ((first | (apply AW_cond; (case hc => (simp only [push_cast, seval]; rfl))) | (apply ER_guard; (case hb => (simp only [push_cast, seval]; rfl)))); all_goals ((intro hc; first | (exfalso; simp only [push_cast, seval, *] at hc; done) | (exact absurd hc (by decide)) | ((try first | rw [Bool.not_true] at hc | rw [Bool.not_false] at hc); first | (with_reducible replace hc := tTT hc); clear hc | (with_reducible replace hc := tFF hc); clear hc | (have hp := hc; try simp only [decide_eq_true_eq, decide_eq_false_iff_not, bA, bB, bC, bD, bE, bF, bG, bH] at hp))) <;> try simp only [push_cast, seval, *]))
    | (refine Kn.go hK ?_; clear hK K)
    | refine Kn.go (by assumption) ?_
    | (intro n hn; (try simp only [upd_none2, join_none_iff, ite_none, ne_eq] at hn); (try simp only [push_cast, seval, *]))
    | (intro hc)
    | (apply ER_blk; (case hp => rfl); (case hb => (simp only [push_cast, seval]; rfl)); (case hd => (simp only [push_cast, seval]; done)); (case h => (intro hc; simp only [push_cast, seval, *]; rfl)); simp only [push_cast, seval, *])
    | fail)
    exact ⟨_, _, Weak.imp (fun F => nil_tab4) (by (simp only [push_cast, seval, *])), rfl, rfl⟩
  rw [if_neg h3] at hD
  have h3F : ((b.length : Int) < 2 + 18 * (N : Int)) = False := by simp; omega
  have hdt : List.take (b.length - 2) (List.drop 2 (b.map by1)) = (b.drop 2).map by1 := by rw [List.take_of_length_le (by simp), List.map_drop]
  have hRo := ho.drop 2
  have hRl : 18 * N ≤ (b.drop 2).length := by rw [List.length_drop]; omega
  have hRm : (b.drop 2).length ≤ 800000 := by rw [List.length_drop]; omega
  have hrd := fun H => read_a (b.drop 2) (by omega) H
  generalize b.drop 2 = R at *
  replace hrd := Lib.hid hrd
  replace hD := Lib.hid hD
  refine ACall_of' Try.func59 rfl (Ent_of Try.func59 (by kernel_rfl) rfl) (by simp [Try.ntmps59]) ?_; simp only [Try.ntmps59, Try.results59]
  repeat' (first
    | refine AW_seq_kn fun K hK => ?_
    | refine AW_block ?_
    | ((first
      | refine AW_region_draw (id := 3) E0 (fun f => [].contains f) dLRC0 dARC0 mixed (by kernel_rfl) ?_
      | refine AW_region_draw (id := 10) E0 (fun f => [].contains f) dLRC1 dARC1 mixed (by kernel_rfl) ?_
      | refine AW_region E0 ?_ | refine AW_ret ?_ | refine AW_exit ?_ | refine AW_skip ?_ | unfold retQ); try simp only [push_cast, seval, *])
    | ((first | (apply AW_cond; (case hc => (simp only [push_cast, seval]; rfl))) | (apply ER_guard; (case hb => (simp only [push_cast, seval]; rfl)))); all_goals ((intro hc; first | (exfalso; simp only [push_cast, seval, *] at hc; done) | (exact absurd hc (by decide)) | ((try first | rw [Bool.not_true] at hc | rw [Bool.not_false] at hc); first | (with_reducible replace hc := tTT hc); clear hc | (with_reducible replace hc := tFF hc); clear hc | (have hp := hc; try simp only [decide_eq_true_eq, decide_eq_false_iff_not, bA, bB, bC, bD, bE, bF, bG, bH] at hp))) <;> try simp only [push_cast, seval, *]))
    | (refine Kn.go hK ?_; clear hK K)
    | refine Kn.go (by assumption) ?_
    | (intro n hn; (try simp only [upd_none2, join_none_iff, ite_none, ne_eq] at hn); (try simp only [push_cast, seval, *]))
    | (intro hc)
    | (apply ER_blk; (case hp => rfl); (case hb => (simp only [push_cast, seval]; rfl)); (case hd => (simp only [push_cast, seval]; done)); (case h => (intro hc; simp only [push_cast, seval, *]; rfl)); simp only [push_cast, seval, *])
    | fail)
  refine does_call rfl rfl ?_
  simp only [push_cast, seval, *]
  refine ACall.mono (unhid hrd _) ?_
  rintro q H' ⟨m, rfl, hm, rfl⟩
  clear hrd hor hshl hc0 hc1 hdt hg0 hg1
  generalize n = n2 at *
  have hmn : ¬ m = n2 := by rintro rfl; rw [upd_same] at hm; cases hm
  have hHm : H m = none := by rw [upd_ne hmn] at hm; exact hm
  (try simp only [push_cast, seval, *])
  repeat' (first
    | refine AW_seq_kn fun K hK => ?_
    | refine AW_block ?_
    | ((first
      | refine AW_region_draw (id := 3) E0 (fun f => [].contains f) dLRC0 dARC0 mixed (by kernel_rfl) ?_
      | refine AW_region_draw (id := 10) E0 (fun f => [].contains f) dLRC1 dARC1 mixed (by kernel_rfl) ?_
      | refine AW_region E0 ?_ | refine AW_ret ?_ | refine AW_exit ?_ | refine AW_skip ?_ | unfold retQ); try simp only [push_cast, seval, *])
    | ((first | (apply AW_cond; (case hc => (simp only [push_cast, seval]; rfl))) | (apply ER_guard; (case hb => (simp only [push_cast, seval]; rfl)))); all_goals ((intro hc; first | (exfalso; simp only [push_cast, seval, *] at hc; done) | (exact absurd hc (by decide)) | ((try first | rw [Bool.not_true] at hc | rw [Bool.not_false] at hc); first | (with_reducible replace hc := tTT hc); clear hc | (with_reducible replace hc := tFF hc); clear hc | (have hp := hc; try simp only [decide_eq_true_eq, decide_eq_false_iff_not, bA, bB, bC, bD, bE, bF, bG, bH] at hp))) <;> try simp only [push_cast, seval, *]))
    | (refine Kn.go hK ?_; clear hK K)
    | refine Kn.go (by assumption) ?_
    | (intro n hn; (try simp only [upd_none2, join_none_iff, ite_none, ne_eq] at hn); (try simp only [push_cast, seval, *]))
    | (intro hc)
    | (apply ER_blk; (case hp => rfl); (case hb => (simp only [push_cast, seval]; rfl)); (case hd => (simp only [push_cast, seval]; done)); (case h => (intro hc; simp only [push_cast, seval, *]; rfl)); simp only [push_cast, seval, *])
    | fail)
  generalize n = n6 at *
  obtain ⟨Gs, hGs⟩ : ∃ Gs : Heap, Gs = upd H n2 (bxT (.c (.slice none 0 0))) := ⟨_, rfl⟩
  have g2 : Gs n2 = some (bxT (.c (.slice none 0 0))) := by rw [hGs]; exact upd_same _ _ _
  have hGm : Gs m = none := by rw [hGs, upd_ne hmn]; exact hHm
  have hG6 : Gs n6 = none := by rw [hGs, upd_ne hn.2.1.1]; exact hn.2.2
  have c6m : ¬ n6 = m := hn.1.1
  have cm6 : ¬ m = n6 := hn.1.2
  have c26 : ¬ n2 = n6 := hn.2.1.2
  have c62 : ¬ n6 = n2 := hn.2.1.1
  have c2m : ¬ n2 = m := fun e => hmn e.symm
  have hH2 : H n2 = none := by assumption
  have hle : Heap.le H Gs := by rw [hGs]; exact le_upd_new hH2
  simp only [bxT] at hGs
  rw [← hGs]
  clear hGs hn hm hHm
  replace hle := Lib.hid hle
  refine AW_loopX (σ := AV × Heap) N (fun k w => OwnL w.2 w.1 80 4 ((parseS R k).map KC.av) (upd (upd Gs m (rdB (R.drop (18 * k)))) n6 (bxT w.1))) (fun k w => [(0, .l 1 (b.map by1)), (2, .p n2 1 0 0), (5, .p m 2 0 0), (6, .p n6 1 0 0), (33, ci N), (34, ci k)]) (fun _ w => w.2) (.c (.slice none 0 0), upd (upd Gs m (rdB R)) n6 (bxT (.c (.slice none 0 0)))) (OwnL.nil _ _ _) ?_ ?_ ?_ ?_
  · (first | trivial | (simp only [push_cast, seval, *]; done))
  · exact Heap.le_refl _
  · rintro k ⟨x, B⟩ hk hown
    simp only at hown
    have hkl : (k : Int) < N := (by omega); have hkw : IntKind.i64.wrap ((k : Int) + 1) = (k : Int) + 1 := wrap_i64 (by omega) (by omega)
    have hps := parse_succ R k
    have hpl := parse_len R k
    have hrl : 18 ≤ (R.drop (18 * k)).length := by rw [List.length_drop]; omega
    have hrm : (R.drop (18 * k)).length ≤ 800000 := by rw [List.length_drop]; omega
    have hro := hRo.drop (18 * k)
    have hnext : R.drop (18 * (k + 1)) = (R.drop (18 * k)).drop 18 := by rw [List.drop_drop]; rfl
    rw [hps, hnext]
    generalize R.drop (18 * k) = L at *
    obtain ⟨s, kk, r2, rfl⟩ := two_of (b := L) (by omega)
    simp only [List.length_cons] at hrl hrm
    have hos := hro s (by simp)
    have hok := hro kk (by simp)
    have hro1 : octs (kk :: r2) := fun y hy => hro y (List.mem_cons_of_mem _ hy)
    have hro2 : octs r2 := fun y hy => hro y (List.mem_cons_of_mem _ (List.mem_cons_of_mem _ hy))
    have hro3 := hro2.drop 8
    have hr3 : 8 ≤ (r2.drop 8).length := by rw [List.length_drop]; omega
    have hrow : rowP (s :: kk :: r2) = ⟨s, kk, IntKind.i64.wrap (numB (r2.take 8)), IntKind.i64.wrap (numB ((r2.drop 8).take 8))⟩ := rfl
    have hd18 : (s :: kk :: r2).drop 18 = (r2.drop 8).drop 8 := by rw [List.drop_drop]; rfl
    rw [hrow, hd18]
    have km := hown.get (m := m) (by rw [upd_ne cm6, upd_same])
    have k6 := hown.get (m := n6) (upd_same _ _ _)
    have a1 := fun M hM => u8_a s (kk :: r2) hro (by simp; omega) m M hM
    have a2 := fun M hM => u8_a kk r2 hro1 (by omega) m M hM
    have a3 := fun M hM => u64_a r2 hro2 (by omega) (by omega) m M hM
    have a4 := fun M hM => u64_a (r2.drop 8) hro3 hr3 (by rw [List.length_drop]; omega) m M hM
    have hsw : IntKind.i64.wrap s = s := wrap_i64 (by omega) (by omega)
    have hkw2 : IntKind.i64.wrap kk = kk := wrap_i64 (by omega) (by omega)
    generalize hX1 : numB (r2.take 8) = X1 at *
    generalize hX2 : numB ((r2.drop 8).take 8) = X2 at *
    generalize hW1 : IntKind.i64.wrap X1 = W1 at *
    generalize hW2 : IntKind.i64.wrap X2 = W2 at *
    generalize hrA : r2.drop 8 = rA at *
    generalize hrB : rA.drop 8 = rB at *
    have hcs := hown.cs
    have hnm := ne_old km
    have hn6 := ne_old k6
    have ht := hown.turn (m := m) (k0 := rdB (s :: kk :: r2)) (by rw [upd_ne cm6, upd_same]) (rdB rB)
    clear hro hro1 hro2 hro3 hr3 hrow hd18 hrl hrm hps hnext hos hok hX1 hX2 hrA hrB hown
    replace a1 := Lib.hid a1
    replace a2 := Lib.hid a2
    replace a3 := Lib.hid a3
    replace a4 := Lib.hid a4
    replace ht := Lib.hid ht
    simp only [bxT] at k6
    repeat' (first
    | refine AW_seq_kn fun K hK => ?_
    | refine AW_block ?_
    | ((first
      | refine AW_region_draw (id := 3) E0 (fun f => [].contains f) dLRC0 dARC0 mixed (by kernel_rfl) ?_
      | refine AW_region_draw (id := 10) E0 (fun f => [].contains f) dLRC1 dARC1 mixed (by kernel_rfl) ?_
      | refine AW_region E0 ?_ | refine AW_ret ?_ | refine AW_exit ?_ | refine AW_skip ?_ | unfold retQ); try simp only [push_cast, seval, *])
    | ((first | (apply AW_cond; (case hc => (simp only [push_cast, seval]; rfl))) | (apply ER_guard; (case hb => (simp only [push_cast, seval]; rfl)))); all_goals ((intro hc; first | (exfalso; simp only [push_cast, seval, *] at hc; done) | (exact absurd hc (by decide)) | ((try first | rw [Bool.not_true] at hc | rw [Bool.not_false] at hc); first | (with_reducible replace hc := tTT hc); clear hc | (with_reducible replace hc := tFF hc); clear hc | (have hp := hc; try simp only [decide_eq_true_eq, decide_eq_false_iff_not, bA, bB, bC, bD, bE, bF, bG, bH] at hp))) <;> try simp only [push_cast, seval, *]))
    | (refine Kn.go hK ?_; clear hK K)
    | refine Kn.go (by assumption) ?_
    | (intro n hn; (try simp only [upd_none2, join_none_iff, ite_none, ne_eq] at hn); (try simp only [push_cast, seval, *]))
    | (intro hc)
    | (apply ER_blk; (case hp => rfl); (case hb => (simp only [push_cast, seval]; rfl)); (case hd => (simp only [push_cast, seval]; done)); (case h => (intro hc; simp only [push_cast, seval, *]; rfl)); simp only [push_cast, seval, *])
    | fail)
    refine does_call rfl rfl ?_
    simp only [push_cast, seval, *]
    refine ACall.mono (unhid a1 _ km) ?_
    (rintro _ _ ⟨rfl, e2⟩; have e3 := e2.symm; clear e2; subst e3)
    (try simp only [push_cast, seval, *])
    repeat' (first
    | refine AW_seq_kn fun K hK => ?_
    | refine AW_block ?_
    | ((first
      | refine AW_region_draw (id := 3) E0 (fun f => [].contains f) dLRC0 dARC0 mixed (by kernel_rfl) ?_
      | refine AW_region_draw (id := 10) E0 (fun f => [].contains f) dLRC1 dARC1 mixed (by kernel_rfl) ?_
      | refine AW_region E0 ?_ | refine AW_ret ?_ | refine AW_exit ?_ | refine AW_skip ?_ | unfold retQ); try simp only [push_cast, seval, *])
    | ((first | (apply AW_cond; (case hc => (simp only [push_cast, seval]; rfl))) | (apply ER_guard; (case hb => (simp only [push_cast, seval]; rfl)))); all_goals ((intro hc; first | (exfalso; simp only [push_cast, seval, *] at hc; done) | (exact absurd hc (by decide)) | ((try first | rw [Bool.not_true] at hc | rw [Bool.not_false] at hc); first | (with_reducible replace hc := tTT hc); clear hc | (with_reducible replace hc := tFF hc); clear hc | (have hp := hc; try simp only [decide_eq_true_eq, decide_eq_false_iff_not, bA, bB, bC, bD, bE, bF, bG, bH] at hp))) <;> try simp only [push_cast, seval, *]))
    | (refine Kn.go hK ?_; clear hK K)
    | refine Kn.go (by assumption) ?_
    | (intro n hn; (try simp only [upd_none2, join_none_iff, ite_none, ne_eq] at hn); (try simp only [push_cast, seval, *]))
    | (intro hc)
    | (apply ER_blk; (case hp => rfl); (case hb => (simp only [push_cast, seval]; rfl)); (case hd => (simp only [push_cast, seval]; done)); (case h => (intro hc; simp only [push_cast, seval, *]; rfl)); simp only [push_cast, seval, *])
    | fail)
    refine does_call rfl rfl ?_
    simp only [push_cast, seval, *]
    refine ACall.mono (unhid a2 _ (upd_same _ _ _)) ?_
    (rintro _ _ ⟨rfl, e2⟩; have e3 := e2.symm; clear e2; subst e3)
    rw [upd_upd]
    (try simp only [push_cast, seval, *])
    repeat' (first
    | refine AW_seq_kn fun K hK => ?_
    | refine AW_block ?_
    | ((first
      | refine AW_region_draw (id := 3) E0 (fun f => [].contains f) dLRC0 dARC0 mixed (by kernel_rfl) ?_
      | refine AW_region_draw (id := 10) E0 (fun f => [].contains f) dLRC1 dARC1 mixed (by kernel_rfl) ?_
      | refine AW_region E0 ?_ | refine AW_ret ?_ | refine AW_exit ?_ | refine AW_skip ?_ | unfold retQ); try simp only [push_cast, seval, *])
    | ((first | (apply AW_cond; (case hc => (simp only [push_cast, seval]; rfl))) | (apply ER_guard; (case hb => (simp only [push_cast, seval]; rfl)))); all_goals ((intro hc; first | (exfalso; simp only [push_cast, seval, *] at hc; done) | (exact absurd hc (by decide)) | ((try first | rw [Bool.not_true] at hc | rw [Bool.not_false] at hc); first | (with_reducible replace hc := tTT hc); clear hc | (with_reducible replace hc := tFF hc); clear hc | (have hp := hc; try simp only [decide_eq_true_eq, decide_eq_false_iff_not, bA, bB, bC, bD, bE, bF, bG, bH] at hp))) <;> try simp only [push_cast, seval, *]))
    | (refine Kn.go hK ?_; clear hK K)
    | refine Kn.go (by assumption) ?_
    | (intro n hn; (try simp only [upd_none2, join_none_iff, ite_none, ne_eq] at hn); (try simp only [push_cast, seval, *]))
    | (intro hc)
    | (apply ER_blk; (case hp => rfl); (case hb => (simp only [push_cast, seval]; rfl)); (case hd => (simp only [push_cast, seval]; done)); (case h => (intro hc; simp only [push_cast, seval, *]; rfl)); simp only [push_cast, seval, *])
    | fail)
    refine does_call rfl rfl ?_
    simp only [push_cast, seval, *]
    refine ACall.mono (unhid a3 _ (upd_same _ _ _)) ?_
    (rintro _ _ ⟨rfl, e2⟩; have e3 := e2.symm; clear e2; subst e3)
    rw [upd_upd]
    (try simp only [push_cast, seval, *])
    repeat' (first
    | refine AW_seq_kn fun K hK => ?_
    | refine AW_block ?_
    | ((first
      | refine AW_region_draw (id := 3) E0 (fun f => [].contains f) dLRC0 dARC0 mixed (by kernel_rfl) ?_
      | refine AW_region_draw (id := 10) E0 (fun f => [].contains f) dLRC1 dARC1 mixed (by kernel_rfl) ?_
      | refine AW_region E0 ?_ | refine AW_ret ?_ | refine AW_exit ?_ | refine AW_skip ?_ | unfold retQ); try simp only [push_cast, seval, *])
    | ((first | (apply AW_cond; (case hc => (simp only [push_cast, seval]; rfl))) | (apply ER_guard; (case hb => (simp only [push_cast, seval]; rfl)))); all_goals ((intro hc; first | (exfalso; simp only [push_cast, seval, *] at hc; done) | (exact absurd hc (by decide)) | ((try first | rw [Bool.not_true] at hc | rw [Bool.not_false] at hc); first | (with_reducible replace hc := tTT hc); clear hc | (with_reducible replace hc := tFF hc); clear hc | (have hp := hc; try simp only [decide_eq_true_eq, decide_eq_false_iff_not, bA, bB, bC, bD, bE, bF, bG, bH] at hp))) <;> try simp only [push_cast, seval, *]))
    | (refine Kn.go hK ?_; clear hK K)
    | refine Kn.go (by assumption) ?_
    | (intro n hn; (try simp only [upd_none2, join_none_iff, ite_none, ne_eq] at hn); (try simp only [push_cast, seval, *]))
    | (intro hc)
    | (apply ER_blk; (case hp => rfl); (case hb => (simp only [push_cast, seval]; rfl)); (case hd => (simp only [push_cast, seval]; done)); (case h => (intro hc; simp only [push_cast, seval, *]; rfl)); simp only [push_cast, seval, *])
    | fail)
    refine does_call rfl rfl ?_
    simp only [push_cast, seval, *]
    refine ACall.mono (unhid a4 _ (upd_same _ _ _)) ?_
    (rintro _ _ ⟨rfl, e2⟩; have e3 := e2.symm; clear e2; subst e3)
    rw [upd_upd]
    clear a1 a2 a3 a4
    (try simp only [push_cast, seval, *])
    repeat' (first
    | refine AW_seq_kn fun K hK => ?_
    | refine AW_block ?_
    | ((first
      | refine AW_region_draw (id := 3) E0 (fun f => [].contains f) dLRC0 dARC0 mixed (by kernel_rfl) ?_
      | refine AW_region_draw (id := 10) E0 (fun f => [].contains f) dLRC1 dARC1 mixed (by kernel_rfl) ?_
      | refine AW_region E0 ?_ | refine AW_ret ?_ | refine AW_exit ?_ | refine AW_skip ?_ | unfold retQ); try simp only [push_cast, seval, *])
    | ((first | (apply AW_cond; (case hc => (simp only [push_cast, seval]; rfl))) | (apply ER_guard; (case hb => (simp only [push_cast, seval]; rfl)))); all_goals ((intro hc; first | (exfalso; simp only [push_cast, seval, *] at hc; done) | (exact absurd hc (by decide)) | ((try first | rw [Bool.not_true] at hc | rw [Bool.not_false] at hc); first | (with_reducible replace hc := tTT hc); clear hc | (with_reducible replace hc := tFF hc); clear hc | (have hp := hc; try simp only [decide_eq_true_eq, decide_eq_false_iff_not, bA, bB, bC, bD, bE, bF, bG, bH] at hp))) <;> try simp only [push_cast, seval, *]))
    | (refine Kn.go hK ?_; clear hK K)
    | refine Kn.go (by assumption) ?_
    | (intro n hn; (try simp only [upd_none2, join_none_iff, ite_none, ne_eq] at hn); (try simp only [push_cast, seval, *]))
    | (intro hc)
    | (apply ER_blk; (case hp => rfl); (case hb => (simp only [push_cast, seval]; rfl)); (case hd => (simp only [push_cast, seval]; done)); (case h => (intro hc; simp only [push_cast, seval, *]; rfl)); simp only [push_cast, seval, *])
    | fail)
    refine does_app1 rfl rfl rfl rfl (unhid ht) (by rw [upd_ne hn.1.1]; exact hn.2) tE47 tS80 tB80 tZ80 rfl (by decide) ?_ ?_ ?_
    · simp only [List.length_map, maxLen]; omega
    · simp only [List.length_map]; omega
    intro x' H' hown'
    have g6 : upd (upd (upd Gs m (rdB (s :: kk :: r2))) n6 (bxT x)) m (rdB rB) n6 = some (bxT x) := by rw [upd_ne c6m, upd_same]
    have kk6 := hown'.get g6
    have hcs' := hown'.cs
    have hfin := hown'.turn g6 (bxT x')
    rw [upd_mix cm6] at hfin
    rw [show [[AV.c (Value.int IntKind.i64 s), AV.c (Value.int IntKind.i64 kk), AV.c (Value.int IntKind.i64 W1), AV.c (Value.int IntKind.i64 W2)]] = [KC.av ⟨s, kk, W1, W2⟩].map id from rfl, List.map_id, ← List.map_singleton (f := KC.av), ← List.map_append] at hfin
    clear hown' ht km k6 hcs g6 hn hnm hn6
    replace hfin := Lib.hid hfin
    simp only [bxT] at kk6
    (try simp only [push_cast, seval, *])
    repeat' (first
    | refine AW_seq_kn fun K hK => ?_
    | refine AW_block ?_
    | ((first
      | refine AW_region_draw (id := 3) E0 (fun f => [].contains f) dLRC0 dARC0 mixed (by kernel_rfl) ?_
      | refine AW_region_draw (id := 10) E0 (fun f => [].contains f) dLRC1 dARC1 mixed (by kernel_rfl) ?_
      | refine AW_region E0 ?_ | refine AW_ret ?_ | refine AW_exit ?_ | refine AW_skip ?_ | unfold retQ); try simp only [push_cast, seval, *])
    | ((first | (apply AW_cond; (case hc => (simp only [push_cast, seval]; rfl))) | (apply ER_guard; (case hb => (simp only [push_cast, seval]; rfl)))); all_goals ((intro hc; first | (exfalso; simp only [push_cast, seval, *] at hc; done) | (exact absurd hc (by decide)) | ((try first | rw [Bool.not_true] at hc | rw [Bool.not_false] at hc); first | (with_reducible replace hc := tTT hc); clear hc | (with_reducible replace hc := tFF hc); clear hc | (have hp := hc; try simp only [decide_eq_true_eq, decide_eq_false_iff_not, bA, bB, bC, bD, bE, bF, bG, bH] at hp))) <;> try simp only [push_cast, seval, *]))
    | (refine Kn.go hK ?_; clear hK K)
    | refine Kn.go (by assumption) ?_
    | (intro n hn; (try simp only [upd_none2, join_none_iff, ite_none, ne_eq] at hn); (try simp only [push_cast, seval, *]))
    | (intro hc)
    | (apply ER_blk; (case hp => rfl); (case hb => (simp only [push_cast, seval]; rfl)); (case hd => (simp only [push_cast, seval]; done)); (case h => (intro hc; simp only [push_cast, seval, *]; rfl)); simp only [push_cast, seval, *])
    | fail)
    exact ⟨(x', _), unhid hfin, by (first | trivial | (simp only [push_cast, seval, *]; done)), by first | exact Heap.le_refl _ | (first | trivial | ((simp only [push_cast, seval, *]); repeat' (first | rfl | exact Heap.le_refl _ | refine And.intro ?_ ?_)) | rfl | exact ⟨rfl, rfl⟩ | exact ⟨rfl, rfl, rfl⟩ | exact Heap.le_refl _)⟩
  · rintro ⟨x, B⟩ hown
    simp only at hown
    have hpl := parse_len R N
    generalize parseS R N = T at *
    generalize R.drop (18 * N) = R' at *
    have k6 := hown.get (m := n6) (upd_same _ _ _)
    have k2 := hown.get (m := n2) (by rw [upd_ne c26, upd_ne c2m]; exact g2)
    have hcs := hown.cs
    have hen := Encode_l T (by omega) x B _ hown
    have hbe := bytesEq_p (encE T).1 b (encE_octs T) ho
    have hle2 : ∀ a c d, Heap.le H (upd (upd (upd Gs m a) n6 c) n2 d) := fun a c d q z hq => by
      have hz := unhid hle q z hq
      have e2 : q ≠ n2 := by rintro rfl; rw [hH2] at hq; cases hq
      have em : q ≠ m := by rintro rfl; rw [hGm] at hz; cases hz
      have e6 : q ≠ n6 := by rintro rfl; rw [hG6] at hz; cases hz
      rw [upd_ne e2, upd_ne e6, upd_ne em]; exact hz
    have hle3 : ∀ d, Heap.le H (upd B n2 d) := fun d q z hq => by
      have hz := unhid hle q z hq
      have e2 : q ≠ n2 := by rintro rfl; rw [hH2] at hq; cases hq
      have em : q ≠ m := by rintro rfl; rw [hGm] at hz; cases hz
      have e6 : q ≠ n6 := by rintro rfl; rw [hG6] at hz; cases hz
      rw [upd_ne e2]
      exact hown.get (by rw [upd_ne e6, upd_ne em]; exact hz)
    have ht2 := hown.turn (m := n2) (by rw [upd_ne c26, upd_ne c2m]; exact g2) (bxT x)
    have hD := unhid hD
    generalize (encE T).1 = E1 at *
    generalize (encE T).2 = E2 at *
    replace hle2 := Lib.hid hle2
    replace hle3 := Lib.hid hle3
    replace ht2 := Lib.hid ht2
    replace hen := Lib.hid hen
    simp only [bxT] at k6 k2
    clear hown hle g2
    by_cases he : E2 = 0
    · by_cases hb2 : E1 = b
      · rw [if_pos ⟨he, hb2⟩, Prod.mk.injEq] at hD
        obtain ⟨rfl, rfl⟩ := hD
        rw [decide_eq_true hb2] at hbe
        subst he
        clear hb2
        repeat' (first
    | refine AW_seq_kn fun K hK => ?_
    | refine AW_block ?_
    | ((first
      | refine AW_region_draw (id := 3) E0 (fun f => [].contains f) dLRC0 dARC0 mixed (by kernel_rfl) ?_
      | refine AW_region_draw (id := 10) E0 (fun f => [].contains f) dLRC1 dARC1 mixed (by kernel_rfl) ?_
      | refine AW_region E0 ?_ | refine AW_ret ?_ | refine AW_exit ?_ | refine AW_skip ?_ | unfold retQ); try simp only [push_cast, seval, *])
    | ((first | (apply AW_cond; (case hc => (simp only [push_cast, seval]; rfl))) | (apply ER_guard; (case hb => (simp only [push_cast, seval]; rfl)))); all_goals ((intro hc; first | (exfalso; simp only [push_cast, seval, *] at hc; done) | (exact absurd hc (by decide)) | ((try first | rw [Bool.not_true] at hc | rw [Bool.not_false] at hc); first | (with_reducible replace hc := tTT hc); clear hc | (with_reducible replace hc := tFF hc); clear hc | (have hp := hc; try simp only [decide_eq_true_eq, decide_eq_false_iff_not, bA, bB, bC, bD, bE, bF, bG, bH] at hp))) <;> try simp only [push_cast, seval, *]))
    | (refine Kn.go hK ?_; clear hK K)
    | refine Kn.go (by assumption) ?_
    | (intro n hn; (try simp only [upd_none2, join_none_iff, ite_none, ne_eq] at hn); (try simp only [push_cast, seval, *]))
    | (intro hc)
    | (apply ER_blk; (case hp => rfl); (case hb => (simp only [push_cast, seval]; rfl)); (case hd => (simp only [push_cast, seval]; done)); (case h => (intro hc; simp only [push_cast, seval, *]; rfl)); simp only [push_cast, seval, *])
    | fail)
        refine does_call rfl rfl ?_
        simp only [push_cast, seval, *]
        refine ACall.monoP (unhid hen) ?_
        (try simp only [push_cast, seval, *])
        repeat' (first
    | refine AW_seq_kn fun K hK => ?_
    | refine AW_block ?_
    | (refine does_call rfl rfl ?_; simp only [push_cast, seval, *]; refine ACall.monoP (hbe _) ?_; (try simp only [push_cast, seval, *]))
    | ((first
      | refine AW_region_draw (id := 3) E0 (fun f => [].contains f) dLRC0 dARC0 mixed (by kernel_rfl) ?_
      | refine AW_region_draw (id := 10) E0 (fun f => [].contains f) dLRC1 dARC1 mixed (by kernel_rfl) ?_
      | refine AW_region E0 ?_ | refine AW_ret ?_ | refine AW_exit ?_ | refine AW_skip ?_ | unfold retQ); try simp only [push_cast, seval, *])
    | ((first | (apply AW_cond; (case hc => (simp only [push_cast, seval]; rfl))) | (apply ER_guard; (case hb => (simp only [push_cast, seval]; rfl)))); all_goals ((intro hc; first | (exfalso; simp only [push_cast, seval, *] at hc; done) | (exact absurd hc (by decide)) | ((try first | rw [Bool.not_true] at hc | rw [Bool.not_false] at hc); first | (with_reducible replace hc := tTT hc); clear hc | (with_reducible replace hc := tFF hc); clear hc | (have hp := hc; try simp only [decide_eq_true_eq, decide_eq_false_iff_not, bA, bB, bC, bD, bE, bF, bG, bH] at hp))) <;> try simp only [push_cast, seval, *]))
    | (refine Kn.go hK ?_; clear hK K)
    | refine Kn.go (by assumption) ?_
    | (intro n hn; (try simp only [upd_none2, join_none_iff, ite_none, ne_eq] at hn); (try simp only [push_cast, seval, *]))
    | (intro hc)
    | (apply ER_blk; (case hp => rfl); (case hb => (simp only [push_cast, seval]; rfl)); (case hd => (simp only [push_cast, seval]; done)); (case h => (intro hc; simp only [push_cast, seval, *]; rfl)); simp only [push_cast, seval, *])
    | fail)
        exact ⟨_, _, ((unhid ht2).weak fun F F' hF hi _ => Imp.t (Imps.cons (Imp.g (Imps.cons hi (fun _ => rfl) Imps.nil)) id (Imps.cons (Imp.refl hF _) id Imps.nil))).trans (Weak.less (unhid hle2 _ _ _)), rfl, rfl⟩
      · rw [if_neg (fun h => hb2 h.2), Prod.mk.injEq] at hD
        obtain ⟨rfl, rfl⟩ := hD
        rw [decide_eq_false hb2] at hbe
        subst he
        clear hb2
        repeat' (first
    | refine AW_seq_kn fun K hK => ?_
    | refine AW_block ?_
    | ((first
      | refine AW_region_draw (id := 3) E0 (fun f => [].contains f) dLRC0 dARC0 mixed (by kernel_rfl) ?_
      | refine AW_region_draw (id := 10) E0 (fun f => [].contains f) dLRC1 dARC1 mixed (by kernel_rfl) ?_
      | refine AW_region E0 ?_ | refine AW_ret ?_ | refine AW_exit ?_ | refine AW_skip ?_ | unfold retQ); try simp only [push_cast, seval, *])
    | ((first | (apply AW_cond; (case hc => (simp only [push_cast, seval]; rfl))) | (apply ER_guard; (case hb => (simp only [push_cast, seval]; rfl)))); all_goals ((intro hc; first | (exfalso; simp only [push_cast, seval, *] at hc; done) | (exact absurd hc (by decide)) | ((try first | rw [Bool.not_true] at hc | rw [Bool.not_false] at hc); first | (with_reducible replace hc := tTT hc); clear hc | (with_reducible replace hc := tFF hc); clear hc | (have hp := hc; try simp only [decide_eq_true_eq, decide_eq_false_iff_not, bA, bB, bC, bD, bE, bF, bG, bH] at hp))) <;> try simp only [push_cast, seval, *]))
    | (refine Kn.go hK ?_; clear hK K)
    | refine Kn.go (by assumption) ?_
    | (intro n hn; (try simp only [upd_none2, join_none_iff, ite_none, ne_eq] at hn); (try simp only [push_cast, seval, *]))
    | (intro hc)
    | (apply ER_blk; (case hp => rfl); (case hb => (simp only [push_cast, seval]; rfl)); (case hd => (simp only [push_cast, seval]; done)); (case h => (intro hc; simp only [push_cast, seval, *]; rfl)); simp only [push_cast, seval, *])
    | fail)
        refine does_call rfl rfl ?_
        simp only [push_cast, seval, *]
        refine ACall.monoP (unhid hen) ?_
        (try simp only [push_cast, seval, *])
        repeat' (first
    | refine AW_seq_kn fun K hK => ?_
    | refine AW_block ?_
    | (refine does_call rfl rfl ?_; simp only [push_cast, seval, *]; refine ACall.monoP (hbe _) ?_; (try simp only [push_cast, seval, *]))
    | ((first
      | refine AW_region_draw (id := 3) E0 (fun f => [].contains f) dLRC0 dARC0 mixed (by kernel_rfl) ?_
      | refine AW_region_draw (id := 10) E0 (fun f => [].contains f) dLRC1 dARC1 mixed (by kernel_rfl) ?_
      | refine AW_region E0 ?_ | refine AW_ret ?_ | refine AW_exit ?_ | refine AW_skip ?_ | unfold retQ); try simp only [push_cast, seval, *])
    | ((first | (apply AW_cond; (case hc => (simp only [push_cast, seval]; rfl))) | (apply ER_guard; (case hb => (simp only [push_cast, seval]; rfl)))); all_goals ((intro hc; first | (exfalso; simp only [push_cast, seval, *] at hc; done) | (exact absurd hc (by decide)) | ((try first | rw [Bool.not_true] at hc | rw [Bool.not_false] at hc); first | (with_reducible replace hc := tTT hc); clear hc | (with_reducible replace hc := tFF hc); clear hc | (have hp := hc; try simp only [decide_eq_true_eq, decide_eq_false_iff_not, bA, bB, bC, bD, bE, bF, bG, bH] at hp))) <;> try simp only [push_cast, seval, *]))
    | (refine Kn.go hK ?_; clear hK K)
    | refine Kn.go (by assumption) ?_
    | (intro n hn; (try simp only [upd_none2, join_none_iff, ite_none, ne_eq] at hn); (try simp only [push_cast, seval, *]))
    | (intro hc)
    | (apply ER_blk; (case hp => rfl); (case hb => (simp only [push_cast, seval]; rfl)); (case hd => (simp only [push_cast, seval]; done)); (case h => (intro hc; simp only [push_cast, seval, *]; rfl)); simp only [push_cast, seval, *])
    | fail)
        exact ⟨_, _, Weak.imp (fun F => nil_tab4) (unhid hle3 _), rfl, rfl⟩
    · rw [if_neg (fun h => he h.1), Prod.mk.injEq] at hD
      obtain ⟨rfl, rfl⟩ := hD
      have heF : (E2 = 0) = False := by simp [he]
      clear he
      repeat' (first
    | refine AW_seq_kn fun K hK => ?_
    | refine AW_block ?_
    | ((first
      | refine AW_region_draw (id := 3) E0 (fun f => [].contains f) dLRC0 dARC0 mixed (by kernel_rfl) ?_
      | refine AW_region_draw (id := 10) E0 (fun f => [].contains f) dLRC1 dARC1 mixed (by kernel_rfl) ?_
      | refine AW_region E0 ?_ | refine AW_ret ?_ | refine AW_exit ?_ | refine AW_skip ?_ | unfold retQ); try simp only [push_cast, seval, *])
    | ((first | (apply AW_cond; (case hc => (simp only [push_cast, seval]; rfl))) | (apply ER_guard; (case hb => (simp only [push_cast, seval]; rfl)))); all_goals ((intro hc; first | (exfalso; simp only [push_cast, seval, *] at hc; done) | (exact absurd hc (by decide)) | ((try first | rw [Bool.not_true] at hc | rw [Bool.not_false] at hc); first | (with_reducible replace hc := tTT hc); clear hc | (with_reducible replace hc := tFF hc); clear hc | (have hp := hc; try simp only [decide_eq_true_eq, decide_eq_false_iff_not, bA, bB, bC, bD, bE, bF, bG, bH] at hp))) <;> try simp only [push_cast, seval, *]))
    | (refine Kn.go hK ?_; clear hK K)
    | refine Kn.go (by assumption) ?_
    | (intro n hn; (try simp only [upd_none2, join_none_iff, ite_none, ne_eq] at hn); (try simp only [push_cast, seval, *]))
    | (intro hc)
    | (apply ER_blk; (case hp => rfl); (case hb => (simp only [push_cast, seval]; rfl)); (case hd => (simp only [push_cast, seval]; done)); (case h => (intro hc; simp only [push_cast, seval, *]; rfl)); simp only [push_cast, seval, *])
    | fail)
      refine does_call rfl rfl ?_
      simp only [push_cast, seval, *]
      refine ACall.monoP (unhid hen) ?_
      (try simp only [push_cast, seval, *])
      repeat' (first
    | refine AW_seq_kn fun K hK => ?_
    | refine AW_block ?_
    | ((first
      | refine AW_region_draw (id := 3) E0 (fun f => [].contains f) dLRC0 dARC0 mixed (by kernel_rfl) ?_
      | refine AW_region_draw (id := 10) E0 (fun f => [].contains f) dLRC1 dARC1 mixed (by kernel_rfl) ?_
      | refine AW_region E0 ?_ | refine AW_ret ?_ | refine AW_exit ?_ | refine AW_skip ?_ | unfold retQ); try simp only [push_cast, seval, *])
    | ((first | (apply AW_cond; (case hc => (simp only [push_cast, seval]; rfl))) | (apply ER_guard; (case hb => (simp only [push_cast, seval]; rfl)))); all_goals ((intro hc; first | (exfalso; simp only [push_cast, seval, *] at hc; done) | (exact absurd hc (by decide)) | ((try first | rw [Bool.not_true] at hc | rw [Bool.not_false] at hc); first | (with_reducible replace hc := tTT hc); clear hc | (with_reducible replace hc := tFF hc); clear hc | (have hp := hc; try simp only [decide_eq_true_eq, decide_eq_false_iff_not, bA, bB, bC, bD, bE, bF, bG, bH] at hp))) <;> try simp only [push_cast, seval, *]))
    | (refine Kn.go hK ?_; clear hK K)
    | refine Kn.go (by assumption) ?_
    | (intro n hn; (try simp only [upd_none2, join_none_iff, ite_none, ne_eq] at hn); (try simp only [push_cast, seval, *]))
    | (intro hc)
    | (apply ER_blk; (case hp => rfl); (case hb => (simp only [push_cast, seval]; rfl)); (case hd => (simp only [push_cast, seval]; done)); (case h => (intro hc; simp only [push_cast, seval, *]; rfl)); simp only [push_cast, seval, *])
    | fail)
      exact ⟨_, _, Weak.imp (fun F => nil_tab4) (unhid hle3 _), rfl, rfl⟩
end Go.Proofs.Ytmkncbddjnaklaa
