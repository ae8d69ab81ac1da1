/- Walks: of the library, over rows that are drawn together. -/
import Derived.Test.YtlbdpnlmdcajbaaB
namespace Go.Proofs.Ytlbdpnlmdcajbaa
open Go.RowKit
open Nat renaming reduceEqDiff → nA, reduceLT → nB, reduceLeDiff → nC, reduceAdd → nD, reduceMul → nE, reduceSub → nF, reduceBEq → nG
open Int renaming reduceToNat → iA, reduceLT → iB, reduceLE → iC, reduceEq → iD
open Bool renaming and_eq_true → bA, or_eq_true → bB, or_eq_false_iff → bC, and_eq_false_iff → bD, not_eq_true' → bE, not_eq_false' → bF, not_true → bG, not_false → bH
set_option linter.all false
set_option maxHeartbeats 4000000
attribute [local irreducible] AW Does ACall tE tS tB tZ
def dLF20 : List En := [(0, false, []), (1, false, []), (2, false, []), (3, false, []), (4, false, []), (5, false, []), (6, false, []), (7, false, [])]
def dAF20 : List (List Nat) := [[], [], [0, 1], [], [], [3, 4], [0, 1, 2, 3, 4, 5], [0, 1, 2, 3, 4, 5, 6]]
attribute [push_cast] dLF20
def dLF21 : List En := [(0, false, []), (1, false, []), (2, false, []), (3, false, []), (4, false, []), (5, false, []), (6, false, []), (7, false, []), (8, false, [])]
def dAF21 : List (List Nat) := [[], [], [], [1, 2], [0, 1, 2, 3], [], [], [5, 6], [0, 1, 2, 3, 4, 5, 6, 7]]
attribute [push_cast] dLF21

abbrev E1 : Env Try.prog := E0
theorem pdel {rows : List (List AV)} {n cap i j : Nat} (H : Heap) (hn : H n = some (.r 61 4 cap rows)) (hij : i ≤ j) (hj : j ≤ rows.length) :
    ACall Try.prog 69 [.s n 4 0 rows.length cap, .c (.int .i64 i), .c (.int .i64 j)] H fun r H' => r = .s n 4 0 (rows.take i ++ rows.drop j).length cap ∧ H' = upd H n (.r 61 4 cap (rows.take i ++ rows.drop j)) := by
  refine ACall.blk (Ent_of Try.func69 (by kernel_rfl) rfl) hn fun hcap hmax _ _ => ?_
  have hcapI : (rows.length : Int) ≤ cap := by omega
  have hijI : (i : Int) ≤ j := by omega
  have hjI : (j : Int) ≤ rows.length := by omega
  have hiI : (i : Int) ≤ rows.length := by omega
  have hicI : (i : Int) ≤ cap := by omega
  have hjcI : (j : Int) ≤ cap := by omega
  by_cases e : i = j
  · subst e
    refine ACall_of' Try.func69 rfl (Ent_of Try.func69 (by kernel_rfl) rfl) (by simp [Try.ntmps69]) ?_; simp only [Try.ntmps69, Try.results69]
    repeat' (first
    | refine AW_seq_kn fun K hK => ?_
    | refine AW_block ?_
    | ((first
      | refine AW_region_draw (id := 5) E1 (fun f => [].contains f) dLF20 dAF20 mixed (by kernel_rfl) ?_
      | refine AW_region E1 ?_ | refine AW_ret ?_ | refine AW_exit ?_ | refine AW_skip ?_ | unfold retQ); try simp only [push_cast, seval, *])
    | (apply AW_cond; (case hc => (simp only [push_cast, seval]; rfl)); all_goals (intro hc; first | (exfalso; simp only [push_cast, seval, *] at hc; done) | (exact absurd hc (by decide)) | ((try first | rw [Bool.not_true] at hc | rw [Bool.not_false] at hc); first | (with_reducible replace hc := tTT hc); clear hc | (with_reducible replace hc := tFF hc); clear hc | (have hp := hc; try simp only [decide_eq_true_eq, decide_eq_false_iff_not, bA, bB, bC, bD, bE, bF, bG, bH] at hp))))
    | (refine Kn.go hK ?_; clear hK K)
    | refine Kn.go (by assumption) ?_
    | (intro n hn; (try simp only [upd_none2, join_none_iff, ite_none, ne_eq] at hn); (try simp only [push_cast, seval, *]))
    | (intro hc)
    | fail)
    refine ⟨_, _, Weak.refl _ _, ?_, ?_⟩
    · rw [List.take_append_drop]
    · rw [List.take_append_drop, upd_self hn]
  · have heI : ¬ (i : Int) = j := by omega
    refine ACall_of' Try.func69 rfl (Ent_of Try.func69 (by kernel_rfl) rfl) (by simp [Try.ntmps69]) ?_; simp only [Try.ntmps69, Try.results69]
    repeat' (first
    | refine AW_seq_kn fun K hK => ?_
    | refine AW_block ?_
    | ((first
      | refine AW_region_draw (id := 5) E1 (fun f => [].contains f) dLF20 dAF20 mixed (by kernel_rfl) ?_
      | refine AW_region E1 ?_ | refine AW_ret ?_ | refine AW_exit ?_ | refine AW_skip ?_ | unfold retQ); try simp only [push_cast, seval, *])
    | (apply AW_cond; (case hc => (simp only [push_cast, seval]; rfl)); all_goals (intro hc; first | (exfalso; simp only [push_cast, seval, *] at hc; done) | (exact absurd hc (by decide)) | ((try first | rw [Bool.not_true] at hc | rw [Bool.not_false] at hc); first | (with_reducible replace hc := tTT hc); clear hc | (with_reducible replace hc := tFF hc); clear hc | (have hp := hc; try simp only [decide_eq_true_eq, decide_eq_false_iff_not, bA, bB, bC, bD, bE, bF, bG, bH] at hp))))
    | (refine Kn.go hK ?_; clear hK K)
    | refine Kn.go (by assumption) ?_
    | (intro n hn; (try simp only [upd_none2, join_none_iff, ite_none, ne_eq] at hn); (try simp only [push_cast, seval, *]))
    | (intro hc)
    | fail)
    refine does_appself rfl rfl rfl hn tE28 tS61 (by omega) (by omega) (by omega) ?_
    have e1 : (rows.drop j).take (rows.length - j) = rows.drop j := List.take_of_length_le (by simp)
    rw [e1]
    have hRl : (rows.take i ++ rows.drop j).length = i + (rows.length - j) := by simp; omega
    generalize hL : i + (rows.length - j) = L at *
    generalize rows.take i ++ rows.drop j = R at *
    have hL1 : (L : Int) ≤ rows.length := by omega
    have hL2 : (L : Int) ≤ cap := by omega
    have hH := upd_same H n (.r 61 4 cap R)
    have hE24 := tE28
    have hZ33 := tZ61
    (try simp only [push_cast, seval, *])
    repeat' (first
    | refine AW_seq_kn fun K hK => ?_
    | refine AW_block ?_
    | (refine does_clear rfl rfl hH hE24 hZ33 rfl (by decide) (by omega) (by omega) ?_; (try simp only [push_cast, seval, *]))
    | ((first
      | refine AW_region_draw (id := 5) E1 (fun f => [].contains f) dLF20 dAF20 mixed (by kernel_rfl) ?_
      | refine AW_region E1 ?_ | refine AW_ret ?_ | refine AW_exit ?_ | refine AW_skip ?_ | unfold retQ); try simp only [push_cast, seval, *])
    | (apply AW_cond; (case hc => (simp only [push_cast, seval]; rfl)); all_goals (intro hc; first | (exfalso; simp only [push_cast, seval, *] at hc; done) | (exact absurd hc (by decide)) | ((try first | rw [Bool.not_true] at hc | rw [Bool.not_false] at hc); first | (with_reducible replace hc := tTT hc); clear hc | (with_reducible replace hc := tFF hc); clear hc | (have hp := hc; try simp only [decide_eq_true_eq, decide_eq_false_iff_not, bA, bB, bC, bD, bE, bF, bG, bH] at hp))))
    | (refine Kn.go hK ?_; clear hK K)
    | refine Kn.go (by assumption) ?_
    | (intro n hn; (try simp only [upd_none2, join_none_iff, ite_none, ne_eq] at hn); (try simp only [push_cast, seval, *]))
    | (intro hc)
    | fail)
    exact ⟨_, _, Weak.refl _ _, by first | rfl | rw [hRl], rfl⟩
theorem pdel_o {x : AV} {rows : List (List AV)} {i j : Nat} {H H0 : Heap} (hown : OwnL H x 61 4 rows H0) (hij : i ≤ j) (hj : j ≤ rows.length) :
    ACall Try.prog 69 [x, .c (.int .i64 i), .c (.int .i64 j)] H fun r H' => OwnL H' r 61 4 (rows.take i ++ rows.drop j) H0 := by
  rcases hown with ⟨⟨ad, rfl⟩, rfl, rfl⟩ | ⟨n, cap, rfl, hn, rfl⟩
  · obtain rfl : j = 0 := by simpa using hj
    obtain rfl : i = 0 := by omega
    have hE24 := tE28
    have hS33 := tS61
    refine ACall_of' Try.func69 rfl (Ent_of Try.func69 (by kernel_rfl) rfl) (by simp [Try.ntmps69]) ?_; simp only [Try.ntmps69, Try.results69]
    repeat' (first
    | refine AW_seq_kn fun K hK => ?_
    | refine AW_block ?_
    | (refine does_slice_c rfl rfl hE24 hS33 rfl rfl rfl (fun _ => rfl) ?_; (try simp only [push_cast, seval, *]))
    | ((first
      | refine AW_region_draw (id := 5) E1 (fun f => [].contains f) dLF20 dAF20 mixed (by kernel_rfl) ?_
      | refine AW_region E1 ?_ | refine AW_ret ?_ | refine AW_exit ?_ | refine AW_skip ?_ | unfold retQ); try simp only [push_cast, seval, *])
    | (apply AW_cond; (case hc => (simp only [push_cast, seval]; rfl)); all_goals (intro hc; first | (exfalso; simp only [push_cast, seval, *] at hc; done) | (exact absurd hc (by decide)) | ((try first | rw [Bool.not_true] at hc | rw [Bool.not_false] at hc); first | (with_reducible replace hc := tTT hc); clear hc | (with_reducible replace hc := tFF hc); clear hc | (have hp := hc; try simp only [decide_eq_true_eq, decide_eq_false_iff_not, bA, bB, bC, bD, bE, bF, bG, bH] at hp))))
    | (refine Kn.go hK ?_; clear hK K)
    | refine Kn.go (by assumption) ?_
    | (intro n hn; (try simp only [upd_none2, join_none_iff, ite_none, ne_eq] at hn); (try simp only [push_cast, seval, *]))
    | (intro hc)
    | fail)
    exact ⟨_, _, Weak.refl _ _, .inl ⟨⟨_, rfl⟩, rfl, rfl⟩⟩
  · refine (pdel H hn hij hj).mono ?_
    (rintro _ _ ⟨rfl, e2⟩; have e3 := e2.symm; clear e2; subst e3)
    refine .inr ⟨n, cap, rfl, upd_same _ _ _, ?_⟩
    funext q
    simp only [del, upd]
    by_cases e : q = n <;> simp [e]

theorem ovl_ains : Extern.find Try.f83 = some (Extern.SlicesOverlaps.overlaps #[50, 50] #[4]) := by kernel_rfl
set_option maxRecDepth 20000 in
theorem ains {rows : List (List AV)} {row : List AV} {n m cap i : Nat} (H : Heap) (hn : H n = some (.r 47 2 cap rows)) (hm : H m = some (.r 47 2 1 [row])) (hne : n ≠ m) (hi : i ≤ rows.length) (hl : rows.length ≤ 1000000) :
    ACall Try.prog 66 [.s n 2 0 rows.length cap, .c (.int .i64 i), .s m 2 0 1 1] H fun r H' => OwnL H' r 47 2 (rows.take i ++ [row] ++ rows.drop i) (del (del H n) m) := by
  refine ACall.blk (Ent_of Try.func66 (by kernel_rfl) rfl) hn fun hcap hmax _ _ => ?_
  have hcapI : (rows.length : Int) ≤ cap := by omega
  have hiI : (i : Int) ≤ rows.length := by omega
  have hicI : (i : Int) ≤ cap := by omega
  have hmn : ¬ m = n := fun e => hne e.symm
  have hnm : ¬ n = m := hne
  have hmd : del H n m = some (.r 47 2 1 [row]) := by rw [del_ne hmn]; exact hm
  by_cases e : i = rows.length
  · have eT : ((i : Int) = rows.length) = True := by simp [e]
    have hend : rows.take i ++ [row] ++ rows.drop i = rows ++ [row] := by subst e; simp
    rw [hend]
    replace e := Lib.hid e
    refine ACall_of' Try.func66 rfl (Ent_of Try.func66 (by kernel_rfl) rfl) (by simp [Try.ntmps66]) ?_; simp only [Try.ntmps66, Try.results66]
    repeat' (first
    | refine AW_seq_kn fun K hK => ?_
    | refine AW_block ?_
    | ((first
      | refine AW_region_draw (id := 11) E1 (fun f => [].contains f) dLF21 dAF21 mixed (by kernel_rfl) ?_
      | refine AW_region_draw (id := 15) E1 (fun f => [].contains f) dLF21 dAF21 mixed (by kernel_rfl) ?_
      | refine AW_region E1 ?_ | refine AW_ret ?_ | refine AW_exit ?_ | refine AW_skip ?_ | unfold retQ); try simp only [push_cast, seval, *])
    | (apply AW_cond; (case hc => (simp only [push_cast, seval]; rfl)); all_goals (intro hc; first | (exfalso; simp only [push_cast, seval, *] at hc; done) | (exact absurd hc (by decide)) | ((try first | rw [Bool.not_true] at hc | rw [Bool.not_false] at hc); first | (with_reducible replace hc := tTT hc); clear hc | (with_reducible replace hc := tFF hc); clear hc | (have hp := hc; try simp only [decide_eq_true_eq, decide_eq_false_iff_not, bA, bB, bC, bD, bE, bF, bG, bH] at hp))))
    | (refine Kn.go hK ?_; clear hK K)
    | refine Kn.go (by assumption) ?_
    | (intro n hn; (try simp only [upd_none2, join_none_iff, ite_none, ne_eq] at hn); (try simp only [push_cast, seval, *]))
    | (intro hc)
    | fail)
    refine does_append_s rfl tE50 tS47 tB47 tZ47 rfl (by decide) (OwnL.of hn rfl) rfl hmd (by simp) (by unfold maxLen; omega) (by omega) ?_
    intro x' H' hown'
    have hcs' := hown'.cs
    simp only [List.drop_zero, List.take_succ_cons, List.take_zero] at hown'
    replace hown' := Lib.hid hown'
    (try simp only [push_cast, seval, *])
    repeat' (first
    | refine AW_seq_kn fun K hK => ?_
    | refine AW_block ?_
    | ((first
      | refine AW_region_draw (id := 11) E1 (fun f => [].contains f) dLF21 dAF21 mixed (by kernel_rfl) ?_
      | refine AW_region_draw (id := 15) E1 (fun f => [].contains f) dLF21 dAF21 mixed (by kernel_rfl) ?_
      | refine AW_region E1 ?_ | refine AW_ret ?_ | refine AW_exit ?_ | refine AW_skip ?_ | unfold retQ); try simp only [push_cast, seval, *])
    | (apply AW_cond; (case hc => (simp only [push_cast, seval]; rfl)); all_goals (intro hc; first | (exfalso; simp only [push_cast, seval, *] at hc; done) | (exact absurd hc (by decide)) | ((try first | rw [Bool.not_true] at hc | rw [Bool.not_false] at hc); first | (with_reducible replace hc := tTT hc); clear hc | (with_reducible replace hc := tFF hc); clear hc | (have hp := hc; try simp only [decide_eq_true_eq, decide_eq_false_iff_not, bA, bB, bC, bD, bE, bF, bG, bH] at hp))))
    | (refine Kn.go hK ?_; clear hK K)
    | refine Kn.go (by assumption) ?_
    | (intro n hn; (try simp only [upd_none2, join_none_iff, ite_none, ne_eq] at hn); (try simp only [push_cast, seval, *]))
    | (intro hc)
    | fail)
    exact ⟨_, _, Weak.refl _ _, unhid hown'⟩
  have heI : ¬ (i : Int) = rows.length := by omega
  have hi1 : (i : Int) + 1 ≤ rows.length := by omega
  obtain ⟨L, hL⟩ : ∃ L, L = rows.length + 1 := ⟨_, rfl⟩
  obtain ⟨i1', hi1'⟩ : ∃ i1', i1' = i + 1 := ⟨_, rfl⟩
  have hw1 : IntKind.i64.wrap ((rows.length : Int) + 1) = (L : Int) := by rw [wrap_i64 (by omega) (by omega)]; omega
  have hw2 : IntKind.i64.wrap ((i : Int) + 1) = (i1' : Int) := by rw [wrap_i64 (by omega) (by omega)]; omega
  have hw3 : IntKind.i64.wrap ((L : Int) - i) = ((L - i : Nat) : Int) := by rw [wrap_i64 (by omega) (by omega)]; omega
  have hE24 := tE50
  have hS33 := tS47
  have hB33 := tB47
  have hZ33 := tZ47
  have hcI3 : (i1' : Int) ≤ L := by omega
  have hcI4 : (i : Int) ≤ L := by omega
  have hk5 : 1 = Nat.min 1 (L - i) := by show 1 = min 1 (L - i); omega
  have hpos : 0 < rows.length := by omega
  have q1 : (rows.drop i).take (rows.length - i) = rows.drop i := List.take_of_length_le (by simp)
  have q3 : (rows.take i1').drop i1' = [] := List.drop_of_length_le (by simp; omega)
  have ht : (rows.take i1').length = i1' := by simp; omega
  by_cases hc : L ≤ cap
  · have hcI : ¬ (cap : Int) < L := by omega
    have hcI2 : (L : Int) ≤ cap := by omega
    have hcI5 : (i1' : Int) ≤ cap := by omega
    have hp1 : rows.take i1' ++ (rows.drop i).take (rows.length - i) ++ rows.drop (i1' + (rows.length - i)) = rows.take i1' ++ rows.drop i := by
      have q2 : rows.drop (i1' + (rows.length - i)) = [] := List.drop_of_length_le (by omega)
      rw [q1, q2, List.append_nil]
    have hl1 : (rows.take i1' ++ rows.drop i).length = L := by simp; omega
    have hp2 : (rows.take i1' ++ rows.drop i).take i ++ ([row].drop 0).take 1 ++ (rows.take i1' ++ rows.drop i).drop (i + 1) = rows.take i ++ [row] ++ rows.drop i := by
      rw [← hi1', List.take_append_of_le_length (by omega), List.take_take, Nat.min_eq_left (by omega), List.drop_append_of_le_length (by omega), q3, List.nil_append]; rfl
    have hfl : L = (rows.take i ++ [row] ++ rows.drop i).length := by simp; omega
    have hk1 : rows.length - i = Nat.min (L - i) (L - i1') := by show _ = min _ _; omega
    have hk2 : i1' ≤ rows.length := by omega
    have hk3 : i1' + (rows.length - i) ≤ cap := by omega
    have hk4 : i + (rows.length - i) ≤ rows.length := by omega
    have hk6 : i ≤ (rows.take i1' ++ rows.drop i).length := by omega
    have hk7 : i + 1 ≤ cap := by omega
    have hov := ovl_ains
    clear q1 q3 ht
    replace hp1 := Lib.hid hp1
    replace hp2 := Lib.hid hp2
    replace hL := Lib.hid hL
    replace hi1' := Lib.hid hi1'
    replace hk1 := Lib.hid hk1
    replace hl1 := Lib.hid hl1
    replace hk5 := Lib.hid hk5
    replace hfl := Lib.hid hfl
    refine ACall_of' Try.func66 rfl (Ent_of Try.func66 (by kernel_rfl) rfl) (by simp [Try.ntmps66]) ?_; simp only [Try.ntmps66, Try.results66]
    repeat' (first
    | refine AW_seq_kn fun K hK => ?_
    | refine AW_block ?_
    | (refine does_capS rfl rfl hE24 ?_; (try simp only [push_cast, seval, *]))
    | ((first
      | refine AW_region_draw (id := 11) E1 (fun f => [].contains f) dLF21 dAF21 mixed (by kernel_rfl) ?_
      | refine AW_region_draw (id := 15) E1 (fun f => [].contains f) dLF21 dAF21 mixed (by kernel_rfl) ?_
      | refine AW_region E1 ?_ | refine AW_ret ?_ | refine AW_exit ?_ | refine AW_skip ?_ | unfold retQ); try simp only [push_cast, seval, *])
    | (apply AW_cond; (case hc => (simp only [push_cast, seval]; rfl)); all_goals (intro hc; first | (exfalso; simp only [push_cast, seval, *] at hc; done) | (exact absurd hc (by decide)) | ((try first | rw [Bool.not_true] at hc | rw [Bool.not_false] at hc); first | (with_reducible replace hc := tTT hc); clear hc | (with_reducible replace hc := tFF hc); clear hc | (have hp := hc; try simp only [decide_eq_true_eq, decide_eq_false_iff_not, bA, bB, bC, bD, bE, bF, bG, bH] at hp))))
    | (refine Kn.go hK ?_; clear hK K)
    | refine Kn.go (by assumption) ?_
    | (intro n hn; (try simp only [upd_none2, join_none_iff, ite_none, ne_eq] at hn); (try simp only [push_cast, seval, *]))
    | (intro hc)
    | fail)
    refine does_overlaps (fn := Try.f83) (tr := 4) rfl Try.func83 (by kernel_rfl) (by kernel_rfl) (by kernel_rfl) hov rfl rfl hm hn hmn hpos hE24 hS33 ?_
    (try simp only [push_cast, seval, *])
    repeat' (first
    | refine AW_seq_kn fun K hK => ?_
    | refine AW_block ?_
    | ((first
      | refine AW_region_draw (id := 11) E1 (fun f => [].contains f) dLF21 dAF21 mixed (by kernel_rfl) ?_
      | refine AW_region_draw (id := 15) E1 (fun f => [].contains f) dLF21 dAF21 mixed (by kernel_rfl) ?_
      | refine AW_region E1 ?_ | refine AW_ret ?_ | refine AW_exit ?_ | refine AW_skip ?_ | unfold retQ); try simp only [push_cast, seval, *])
    | (apply AW_cond; (case hc => (simp only [push_cast, seval]; rfl)); all_goals (intro hc; first | (exfalso; simp only [push_cast, seval, *] at hc; done) | (exact absurd hc (by decide)) | ((try first | rw [Bool.not_true] at hc | rw [Bool.not_false] at hc); first | (with_reducible replace hc := tTT hc); clear hc | (with_reducible replace hc := tFF hc); clear hc | (have hp := hc; try simp only [decide_eq_true_eq, decide_eq_false_iff_not, bA, bB, bC, bD, bE, bF, bG, bH] at hp))))
    | (refine Kn.go hK ?_; clear hK K)
    | refine Kn.go (by assumption) ?_
    | (intro n hn; (try simp only [upd_none2, join_none_iff, ite_none, ne_eq] at hn); (try simp only [push_cast, seval, *]))
    | (intro hc)
    | fail)
    refine does_copyB rfl rfl rfl hn hn hE24 hS33 (unhid hk1) hk2 hk3 hk4 ?_
    rw [unhid hp1]
    (try simp only [push_cast, seval, *])
    repeat' (first
    | refine AW_seq_kn fun K hK => ?_
    | refine AW_block ?_
    | ((first
      | refine AW_region_draw (id := 11) E1 (fun f => [].contains f) dLF21 dAF21 mixed (by kernel_rfl) ?_
      | refine AW_region_draw (id := 15) E1 (fun f => [].contains f) dLF21 dAF21 mixed (by kernel_rfl) ?_
      | refine AW_region E1 ?_ | refine AW_ret ?_ | refine AW_exit ?_ | refine AW_skip ?_ | unfold retQ); try simp only [push_cast, seval, *])
    | (apply AW_cond; (case hc => (simp only [push_cast, seval]; rfl)); all_goals (intro hc; first | (exfalso; simp only [push_cast, seval, *] at hc; done) | (exact absurd hc (by decide)) | ((try first | rw [Bool.not_true] at hc | rw [Bool.not_false] at hc); first | (with_reducible replace hc := tTT hc); clear hc | (with_reducible replace hc := tFF hc); clear hc | (have hp := hc; try simp only [decide_eq_true_eq, decide_eq_false_iff_not, bA, bB, bC, bD, bE, bF, bG, bH] at hp))))
    | (refine Kn.go hK ?_; clear hK K)
    | refine Kn.go (by assumption) ?_
    | (intro n hn; (try simp only [upd_none2, join_none_iff, ite_none, ne_eq] at hn); (try simp only [push_cast, seval, *]))
    | (intro hc)
    | fail)
    refine does_copyB rfl rfl rfl (upd_same _ _ _) (by rw [upd_ne hmn]; exact hm) hE24 hS33 (unhid hk5) hk6 hk7 (Nat.le_refl _) ?_
    rw [unhid hp2, upd_upd]
    (try simp only [push_cast, seval, *])
    repeat' (first
    | refine AW_seq_kn fun K hK => ?_
    | refine AW_block ?_
    | ((first
      | refine AW_region_draw (id := 11) E1 (fun f => [].contains f) dLF21 dAF21 mixed (by kernel_rfl) ?_
      | refine AW_region_draw (id := 15) E1 (fun f => [].contains f) dLF21 dAF21 mixed (by kernel_rfl) ?_
      | refine AW_region E1 ?_ | refine AW_ret ?_ | refine AW_exit ?_ | refine AW_skip ?_ | unfold retQ); try simp only [push_cast, seval, *])
    | (apply AW_cond; (case hc => (simp only [push_cast, seval]; rfl)); all_goals (intro hc; first | (exfalso; simp only [push_cast, seval, *] at hc; done) | (exact absurd hc (by decide)) | ((try first | rw [Bool.not_true] at hc | rw [Bool.not_false] at hc); first | (with_reducible replace hc := tTT hc); clear hc | (with_reducible replace hc := tFF hc); clear hc | (have hp := hc; try simp only [decide_eq_true_eq, decide_eq_false_iff_not, bA, bB, bC, bD, bE, bF, bG, bH] at hp))))
    | (refine Kn.go hK ?_; clear hK K)
    | refine Kn.go (by assumption) ?_
    | (intro n hn; (try simp only [upd_none2, join_none_iff, ite_none, ne_eq] at hn); (try simp only [push_cast, seval, *]))
    | (intro hc)
    | fail)
    refine ⟨_, _, Weak.less (H' := upd (del (del H n) m) n (.r 47 2 cap (rows.take i ++ [row] ++ rows.drop i))) ?_, ?_⟩
    · exact fun q b hq => by
        by_cases c1 : q = n
        · subst c1; rw [upd_same] at hq ⊢; exact hq
        · rw [upd_ne c1] at hq ⊢
          by_cases c2 : q = m
          · subst c2; rw [del_same] at hq; cases hq
          · rw [del_ne c2, del_ne c1] at hq; exact hq
    · exact OwnL.at (unhid hfl) (by rw [del_ne hnm]; exact del_same _ _)
  · have hcI : (cap : Int) < L := by omega
    have hcn : cap < i + (L - i) := by omega
    have hiL : i + (L - i) = L := by omega
    have hlt : (rows.take i).length = i := by simp; omega
    have hpa : (rows.take i).take i ++ ([row].drop 0).take 1 ++ (rows.take i).drop (i + 1) = rows.take i ++ [row] := by
      have q4 : (rows.take i).drop (i + 1) = [] := List.drop_of_length_le (by omega)
      rw [List.take_take, Nat.min_self, q4, List.append_nil]; rfl
    have hpb : (rows.take i ++ [row]).take i1' ++ (rows.drop i).take (rows.length - i) ++ (rows.take i ++ [row]).drop (i1' + (rows.length - i)) = rows.take i ++ [row] ++ rows.drop i := by
      have q5 : (rows.take i ++ [row]).take i1' = rows.take i ++ [row] := List.take_of_length_le (by simp; omega)
      have q6 : (rows.take i ++ [row]).drop (i1' + (rows.length - i)) = [] := List.drop_of_length_le (by simp; omega)
      rw [q1, q5, q6, List.append_nil]
    have hfl : L = (rows.take i ++ [row] ++ rows.drop i).length := by simp; omega
    have hk1 : rows.length - i = Nat.min (rows.length - i) (L - i1') := by show _ = min _ _; omega
    have hk2 : i1' ≤ (rows.take i ++ [row]).length := by simp; omega
    have hk4 : i + (rows.length - i) ≤ rows.length := by omega
    have hk6 : i ≤ (rows.take i).length := by omega
    have hLp : 0 < L - i := by omega
    have hLm : i + (L - i) ≤ maxLen := by unfold maxLen; omega
    have hilen : i1' + (rows.length - i) = L := by omega
    have hLle : L ≤ 1000001 := by omega
    clear q1 q3 ht
    replace hpa := Lib.hid hpa
    replace hpb := Lib.hid hpb
    replace hL := Lib.hid hL
    replace hi1' := Lib.hid hi1'
    replace hk1 := Lib.hid hk1
    replace hk5 := Lib.hid hk5
    replace hfl := Lib.hid hfl
    replace hiL := Lib.hid hiL
    replace hlt := Lib.hid hlt
    replace hilen := Lib.hid hilen
    refine ACall_of' Try.func66 rfl (Ent_of Try.func66 (by kernel_rfl) rfl) (by simp [Try.ntmps66]) ?_; simp only [Try.ntmps66, Try.results66]
    repeat' (first
    | refine AW_seq_kn fun K hK => ?_
    | refine AW_block ?_
    | (refine does_capS rfl rfl hE24 ?_; (try simp only [push_cast, seval, *]))
    | ((first
      | refine AW_region_draw (id := 11) E1 (fun f => [].contains f) dLF21 dAF21 mixed (by kernel_rfl) ?_
      | refine AW_region_draw (id := 15) E1 (fun f => [].contains f) dLF21 dAF21 mixed (by kernel_rfl) ?_
      | refine AW_region E1 ?_ | refine AW_ret ?_ | refine AW_exit ?_ | refine AW_skip ?_ | unfold retQ); try simp only [push_cast, seval, *])
    | (apply AW_cond; (case hc => (simp only [push_cast, seval]; rfl)); all_goals (intro hc; first | (exfalso; simp only [push_cast, seval, *] at hc; done) | (exact absurd hc (by decide)) | ((try first | rw [Bool.not_true] at hc | rw [Bool.not_false] at hc); first | (with_reducible replace hc := tTT hc); clear hc | (with_reducible replace hc := tFF hc); clear hc | (have hp := hc; try simp only [decide_eq_true_eq, decide_eq_false_iff_not, bA, bB, bC, bD, bE, bF, bG, bH] at hp))))
    | (refine Kn.go hK ?_; clear hK K)
    | refine Kn.go (by assumption) ?_
    | (intro n hn; (try simp only [upd_none2, join_none_iff, ite_none, ne_eq] at hn); (try simp only [push_cast, seval, *]))
    | (intro hc)
    | fail)
    refine does_appZS rfl rfl rfl hn hi hcn tU3 hE24 hS33 hB33 hZ33 rfl (by decide) hLp hLm (by omega) ?_
    intro m2 G hm2 hG1 hG2
    rw [unhid hiL] at hG1 ⊢
    have nm2 : ¬ m = m2 := by rintro rfl; rw [hm2] at hm; cases hm
    have nn2 : ¬ n = m2 := by rintro rfl; rw [hm2] at hn; cases hn
    have hGI : (L : Int) ≤ G := by omega
    have hGi : (i : Int) ≤ G := by omega
    have hGi1 : (i1' : Int) ≤ G := by have := unhid hi1'; omega
    have hGk : i + 1 ≤ G := by have := unhid hi1'; omega
    have hGl : i1' + (rows.length - i) ≤ G := by rw [unhid hilen]; exact hG1
    (try simp only [push_cast, seval, *])
    repeat' (first
    | refine AW_seq_kn fun K hK => ?_
    | refine AW_block ?_
    | ((first
      | refine AW_region_draw (id := 11) E1 (fun f => [].contains f) dLF21 dAF21 mixed (by kernel_rfl) ?_
      | refine AW_region_draw (id := 15) E1 (fun f => [].contains f) dLF21 dAF21 mixed (by kernel_rfl) ?_
      | refine AW_region E1 ?_ | refine AW_ret ?_ | refine AW_exit ?_ | refine AW_skip ?_ | unfold retQ); try simp only [push_cast, seval, *])
    | (apply AW_cond; (case hc => (simp only [push_cast, seval]; rfl)); all_goals (intro hc; first | (exfalso; simp only [push_cast, seval, *] at hc; done) | (exact absurd hc (by decide)) | ((try first | rw [Bool.not_true] at hc | rw [Bool.not_false] at hc); first | (with_reducible replace hc := tTT hc); clear hc | (with_reducible replace hc := tFF hc); clear hc | (have hp := hc; try simp only [decide_eq_true_eq, decide_eq_false_iff_not, bA, bB, bC, bD, bE, bF, bG, bH] at hp))))
    | (refine Kn.go hK ?_; clear hK K)
    | refine Kn.go (by assumption) ?_
    | (intro n hn; (try simp only [upd_none2, join_none_iff, ite_none, ne_eq] at hn); (try simp only [push_cast, seval, *]))
    | (intro hc)
    | fail)
    refine does_copyB rfl rfl rfl (upd_same _ _ _) (by rw [upd_ne nm2]; exact hm) hE24 hS33 (unhid hk5) hk6 hGk (Nat.le_refl _) ?_
    rw [unhid hpa, upd_upd]
    (try simp only [push_cast, seval, *])
    repeat' (first
    | refine AW_seq_kn fun K hK => ?_
    | refine AW_block ?_
    | ((first
      | refine AW_region_draw (id := 11) E1 (fun f => [].contains f) dLF21 dAF21 mixed (by kernel_rfl) ?_
      | refine AW_region_draw (id := 15) E1 (fun f => [].contains f) dLF21 dAF21 mixed (by kernel_rfl) ?_
      | refine AW_region E1 ?_ | refine AW_ret ?_ | refine AW_exit ?_ | refine AW_skip ?_ | unfold retQ); try simp only [push_cast, seval, *])
    | (apply AW_cond; (case hc => (simp only [push_cast, seval]; rfl)); all_goals (intro hc; first | (exfalso; simp only [push_cast, seval, *] at hc; done) | (exact absurd hc (by decide)) | ((try first | rw [Bool.not_true] at hc | rw [Bool.not_false] at hc); first | (with_reducible replace hc := tTT hc); clear hc | (with_reducible replace hc := tFF hc); clear hc | (have hp := hc; try simp only [decide_eq_true_eq, decide_eq_false_iff_not, bA, bB, bC, bD, bE, bF, bG, bH] at hp))))
    | (refine Kn.go hK ?_; clear hK K)
    | refine Kn.go (by assumption) ?_
    | (intro n hn; (try simp only [upd_none2, join_none_iff, ite_none, ne_eq] at hn); (try simp only [push_cast, seval, *]))
    | (intro hc)
    | fail)
    refine does_copyB rfl rfl rfl (upd_same _ _ _) (by rw [upd_ne nn2]; exact hn) hE24 hS33 (unhid hk1) hk2 hGl hk4 ?_
    rw [unhid hpb, upd_upd]
    (try simp only [push_cast, seval, *])
    repeat' (first
    | refine AW_seq_kn fun K hK => ?_
    | refine AW_block ?_
    | ((first
      | refine AW_region_draw (id := 11) E1 (fun f => [].contains f) dLF21 dAF21 mixed (by kernel_rfl) ?_
      | refine AW_region_draw (id := 15) E1 (fun f => [].contains f) dLF21 dAF21 mixed (by kernel_rfl) ?_
      | refine AW_region E1 ?_ | refine AW_ret ?_ | refine AW_exit ?_ | refine AW_skip ?_ | unfold retQ); try simp only [push_cast, seval, *])
    | (apply AW_cond; (case hc => (simp only [push_cast, seval]; rfl)); all_goals (intro hc; first | (exfalso; simp only [push_cast, seval, *] at hc; done) | (exact absurd hc (by decide)) | ((try first | rw [Bool.not_true] at hc | rw [Bool.not_false] at hc); first | (with_reducible replace hc := tTT hc); clear hc | (with_reducible replace hc := tFF hc); clear hc | (have hp := hc; try simp only [decide_eq_true_eq, decide_eq_false_iff_not, bA, bB, bC, bD, bE, bF, bG, bH] at hp))))
    | (refine Kn.go hK ?_; clear hK K)
    | refine Kn.go (by assumption) ?_
    | (intro n hn; (try simp only [upd_none2, join_none_iff, ite_none, ne_eq] at hn); (try simp only [push_cast, seval, *]))
    | (intro hc)
    | fail)
    refine ⟨_, _, Weak.less (H' := upd (del (del H n) m) m2 (.r 47 2 G (rows.take i ++ [row] ++ rows.drop i))) ?_, ?_⟩
    · exact fun q b hq => by
        by_cases c1 : q = m2
        · subst c1; rw [upd_same] at hq ⊢; exact hq
        · rw [upd_ne c1] at hq ⊢
          by_cases c2 : q = m
          · subst c2; rw [del_same] at hq; cases hq
          · rw [del_ne c2] at hq
            by_cases c3 : q = n
            · subst c3; rw [del_same] at hq; cases hq
            · rw [del_ne c3] at hq; exact hq
    · have hd2 : del (del H n) m m2 = none := by
        by_cases c2 : m2 = m
        · subst c2; exact del_same _ _
        · rw [del_ne c2]
          by_cases c3 : m2 = n
          · subst c3; exact del_same _ _
          · rw [del_ne c3]; exact hm2
      exact OwnL.at (unhid hfl) hd2
set_option maxRecDepth 20000 in
theorem ains_o {x : AV} {rows : List (List AV)} {row : List AV} {m i : Nat} {H H0 : Heap} (hown : OwnL H x 47 2 rows H0) (hm : H0 m = some (.r 47 2 1 [row])) (hi : i ≤ rows.length) (hl : rows.length ≤ 1000000) :
    ACall Try.prog 66 [x, .c (.int .i64 i), .s m 2 0 1 1] H fun r H' => OwnL H' r 47 2 (rows.take i ++ [row] ++ rows.drop i) (del H0 m) := by
  rcases hown with ⟨⟨ad, rfl⟩, rfl, rfl⟩ | ⟨n, cap, rfl, hn, rfl⟩
  · obtain rfl : i = 0 := by simpa using hi
    have hE24 := tE50
    have hS33 := tS47
    refine ACall_of' Try.func66 rfl (Ent_of Try.func66 (by kernel_rfl) rfl) (by simp [Try.ntmps66]) ?_; simp only [Try.ntmps66, Try.results66]
    repeat' (first
    | refine AW_seq_kn fun K hK => ?_
    | refine AW_block ?_
    | (refine does_slice_c rfl rfl hE24 hS33 rfl rfl rfl (by decide) ?_; (try simp only [push_cast, seval, *]))
    | ((first
      | refine AW_region_draw (id := 11) E1 (fun f => [].contains f) dLF21 dAF21 mixed (by kernel_rfl) ?_
      | refine AW_region_draw (id := 15) E1 (fun f => [].contains f) dLF21 dAF21 mixed (by kernel_rfl) ?_
      | refine AW_region E1 ?_ | refine AW_ret ?_ | refine AW_exit ?_ | refine AW_skip ?_ | unfold retQ); try simp only [push_cast, seval, *])
    | (apply AW_cond; (case hc => (simp only [push_cast, seval]; rfl)); all_goals (intro hc; first | (exfalso; simp only [push_cast, seval, *] at hc; done) | (exact absurd hc (by decide)) | ((try first | rw [Bool.not_true] at hc | rw [Bool.not_false] at hc); first | (with_reducible replace hc := tTT hc); clear hc | (with_reducible replace hc := tFF hc); clear hc | (have hp := hc; try simp only [decide_eq_true_eq, decide_eq_false_iff_not, bA, bB, bC, bD, bE, bF, bG, bH] at hp))))
    | (refine Kn.go hK ?_; clear hK K)
    | refine Kn.go (by assumption) ?_
    | (intro n hn; (try simp only [upd_none2, join_none_iff, ite_none, ne_eq] at hn); (try simp only [push_cast, seval, *]))
    | (intro hc)
    | fail)
    refine does_append_s rfl tE50 tS47 tB47 tZ47 rfl (by decide) (H0 := H0) (.inl ⟨⟨ad, rfl⟩, rfl, rfl⟩) rfl hm (by simp) (by decide) (by decide) ?_
    intro x' H' hown'
    have hcs' := hown'.cs
    simp only [List.drop_zero, List.take_succ_cons, List.take_zero] at hown'
    replace hown' := Lib.hid hown'
    (try simp only [push_cast, seval, *])
    repeat' (first
    | refine AW_seq_kn fun K hK => ?_
    | refine AW_block ?_
    | ((first
      | refine AW_region_draw (id := 11) E1 (fun f => [].contains f) dLF21 dAF21 mixed (by kernel_rfl) ?_
      | refine AW_region_draw (id := 15) E1 (fun f => [].contains f) dLF21 dAF21 mixed (by kernel_rfl) ?_
      | refine AW_region E1 ?_ | refine AW_ret ?_ | refine AW_exit ?_ | refine AW_skip ?_ | unfold retQ); try simp only [push_cast, seval, *])
    | (apply AW_cond; (case hc => (simp only [push_cast, seval]; rfl)); all_goals (intro hc; first | (exfalso; simp only [push_cast, seval, *] at hc; done) | (exact absurd hc (by decide)) | ((try first | rw [Bool.not_true] at hc | rw [Bool.not_false] at hc); first | (with_reducible replace hc := tTT hc); clear hc | (with_reducible replace hc := tFF hc); clear hc | (have hp := hc; try simp only [decide_eq_true_eq, decide_eq_false_iff_not, bA, bB, bC, bD, bE, bF, bG, bH] at hp))))
    | (refine Kn.go hK ?_; clear hK K)
    | refine Kn.go (by assumption) ?_
    | (intro n hn; (try simp only [upd_none2, join_none_iff, ite_none, ne_eq] at hn); (try simp only [push_cast, seval, *]))
    | (intro hc)
    | fail)
    exact ⟨_, _, Weak.refl _ _, unhid hown'⟩
  · have hmn : m ≠ n := by rintro rfl; rw [del_same] at hm; cases hm
    rw [del_ne hmn] at hm
    exact ains H hn hm (Ne.symm hmn) hi hl

end Go.Proofs.Ytlbdpnlmdcajbaa
