/- Walks: copies of tables; what is played; what is spoiled. -/
import Derived.Test.YtmkncbddjnaklaaTD
namespace Go.Proofs.Ytmkncbddjnaklaa
open Go.RowKit
open Nat renaming reduceEqDiff → nA, reduceLT → nB, reduceLeDiff → nC, reduceAdd → nD, reduceMul → nE, reduceSub → nF, reduceBEq → nG
open Int renaming reduceToNat → iA, reduceLT → iB, reduceLE → iC, reduceEq → iD
open Bool renaming and_eq_true → bA, or_eq_true → bB, or_eq_false_iff → bC, and_eq_false_iff → bD, not_eq_true' → bE, not_eq_false' → bF, not_true → bG, not_false → bH
set_option linter.all false
set_option maxHeartbeats 4000000
attribute [local irreducible] AW Does ACall tE tS tB tZ

theorem minK (l : List KC) (m : Nat) : ∃ mn : Nat, (if (m : Int) < l.length then (m : Int) else (l.length : Int)) = (mn : Int) ∧ mn ≤ l.length ∧ mn ≤ m ∧ l.take mn = l.take m := by
  by_cases c : m < l.length
  · exact ⟨m, by rw [if_pos (by omega)], by omega, by omega, rfl⟩
  · exact ⟨l.length, by rw [if_neg (by omega)], by omega, by omega, by rw [List.take_of_length_le (by omega), List.take_of_length_le (by omega)]⟩
theorem short12_p (l : List KC) (hl : l.length ≤ maxLen) : Pure Try.prog 30 [.g [.l 4 (l.map KC.av)]] (.g [.l 4 ((l.take 257).map KC.av)]) := by
  intro H
  unfold maxLen at hl
  obtain ⟨mn, hmn, hm1, hm2, hm3⟩ := minK l 257
  simp only [Int.cast_ofNat_Int] at hmn
  have hmI : (mn : Int) ≤ l.length := by omega
  have hzl : (List.map KC.av l).take mn = (l.take 257).map KC.av := by rw [← hm3, List.map_take]
  have hbl : (l.take 257).length ≤ 257 := by simp; omega
  generalize l.take 257 = C at *
  clear hm3
  refine ACall_of' Try.func30 rfl (Ent_of Try.func30 (by kernel_rfl) rfl) (by simp [Try.ntmps30]) ?_; simp only [Try.ntmps30, Try.results30]
  repeat' (first
    | refine AW_seq_kn fun K hK => ?_
    | refine AW_block ?_
    | ((first
      | refine AW_region E0 ?_ | refine AW_ret ?_ | refine AW_exit ?_ | refine AW_skip ?_ | unfold retQ); try simp only [push_cast, seval, *])
    | (apply AW_cond; (case hc => (simp only [push_cast, seval]; rfl)); all_goals (intro hc; first | (exfalso; simp only [push_cast, seval, *] at hc; done) | (exact absurd hc (by decide)) | ((try first | rw [Bool.not_true] at hc | rw [Bool.not_false] at hc); first | (with_reducible replace hc := tTT hc); clear hc | (with_reducible replace hc := tFF hc); clear hc | (have hp := hc; try simp only [decide_eq_true_eq, decide_eq_false_iff_not, bA, bB, bC, bD, bE, bF, bG, bH] at hp))))
    | (refine Kn.go hK ?_; clear hK K)
    | refine Kn.go (by assumption) ?_
    | (intro n hn; (try simp only [upd_none2, join_none_iff, ite_none, ne_eq] at hn); (try simp only [push_cast, seval, *]))
    | (intro hc)
    | fail)
  rename_i n1 h1 n2 h2
  refine does_appL rfl rfl rfl (OwnL.fresh (by simp only [upd_none2]; exact hn)) tE47 tS80 tB80 tZ80 rfl (by decide) ?_ ?_ ?_
  · simp only [List.length_map, List.length_nil, maxLen]; omega
  · simp only [List.length_map, List.length_nil]; omega
  intro x' G hown'
  have hcs' := hown'.cs
  rw [List.nil_append] at hown'
  have n12 : ¬ n1 = n2 := h2.1.2
  have n21 : ¬ n2 = n1 := h2.1.1
  have g1 : upd (upd H n1 (.r 49 1 1 [[.l 4 (l.map KC.av)]])) n2 (.r 49 1 1 [[.c (.slice none 0 0)]]) n2 = some (.r 49 1 1 [[.c (.slice none 0 0)]]) := upd_same _ _ _
  have k2 := hown'.get g1
  have ht := hown'.turn g1 (bxT x')
  have hle : Heap.le H (upd (upd (upd H n1 (.r 49 1 1 [[.l 4 (l.map KC.av)]])) n2 (.r 49 1 1 [[.c (.slice none 0 0)]])) n2 (bxT x')) := fun q b hq => by
    have c1 : ¬ q = n1 := by rintro rfl; rw [h1] at hq; cases hq
    have c2 : ¬ q = n2 := by rintro rfl; rw [h2.2] at hq; cases hq
    rw [upd_ne c2, upd_ne c2, upd_ne c1]; exact hq
  clear hown' g1
  replace ht := Lib.hid ht
  replace hle := Lib.hid hle
  (try simp only [push_cast, seval, *])
  repeat' (first
    | refine AW_seq_kn fun K hK => ?_
    | refine AW_block ?_
    | ((first
      | refine AW_region E0 ?_ | refine AW_ret ?_ | refine AW_exit ?_ | refine AW_skip ?_ | unfold retQ); try simp only [push_cast, seval, *])
    | (apply AW_cond; (case hc => (simp only [push_cast, seval]; rfl)); all_goals (intro hc; first | (exfalso; simp only [push_cast, seval, *] at hc; done) | (exact absurd hc (by decide)) | ((try first | rw [Bool.not_true] at hc | rw [Bool.not_false] at hc); first | (with_reducible replace hc := tTT hc); clear hc | (with_reducible replace hc := tFF hc); clear hc | (have hp := hc; try simp only [decide_eq_true_eq, decide_eq_false_iff_not, bA, bB, bC, bD, bE, bF, bG, bH] at hp))))
    | (refine Kn.go hK ?_; clear hK K)
    | refine Kn.go (by assumption) ?_
    | (intro n hn; (try simp only [upd_none2, join_none_iff, ite_none, ne_eq] at hn); (try simp only [push_cast, seval, *]))
    | (intro hc)
    | fail)
  exact ⟨_, _, ((unhid ht).weak fun F F' hF hi _ => Imp.g (Imps.cons hi (fun _ => rfl) Imps.nil)).trans (Weak.less (unhid hle)), rfl, rfl⟩

theorem copy12_p (l : List KC) (hl : l.length ≤ 100000) : Pure Try.prog 42 [.g [.l 4 (l.map KC.av)]] (.g [.l 4 (l.map KC.av)]) := by
  intro H
  refine ACall_of' Try.func42 rfl (Ent_of Try.func42 (by kernel_rfl) rfl) (by simp [Try.ntmps42]) ?_; simp only [Try.ntmps42, Try.results42]
  repeat' (first
    | refine AW_seq_kn fun K hK => ?_
    | refine AW_block ?_
    | ((first
      | refine AW_region E0 ?_ | refine AW_ret ?_ | refine AW_exit ?_ | refine AW_skip ?_ | unfold retQ); try simp only [push_cast, seval, *])
    | (apply AW_cond; (case hc => (simp only [push_cast, seval]; rfl)); all_goals (intro hc; first | (exfalso; simp only [push_cast, seval, *] at hc; done) | (exact absurd hc (by decide)) | ((try first | rw [Bool.not_true] at hc | rw [Bool.not_false] at hc); first | (with_reducible replace hc := tTT hc); clear hc | (with_reducible replace hc := tFF hc); clear hc | (have hp := hc; try simp only [decide_eq_true_eq, decide_eq_false_iff_not, bA, bB, bC, bD, bE, bF, bG, bH] at hp))))
    | (refine Kn.go hK ?_; clear hK K)
    | refine Kn.go (by assumption) ?_
    | (intro n hn; (try simp only [upd_none2, join_none_iff, ite_none, ne_eq] at hn); (try simp only [push_cast, seval, *]))
    | (intro hc)
    | fail)
  rename_i n1 h1 n2 h2
  refine does_appL rfl rfl rfl (OwnL.fresh (by simp only [upd_none2]; exact hn)) tE47 tS80 tB80 tZ80 rfl (by decide) ?_ ?_ ?_
  · simp only [List.length_map, List.length_nil, maxLen]; omega
  · simp only [List.length_map, List.length_nil]; omega
  intro x' G hown'
  have hcs' := hown'.cs
  rw [List.nil_append] at hown'
  have n12 : ¬ n1 = n2 := h2.1.2
  have n21 : ¬ n2 = n1 := h2.1.1
  have g1 : upd (upd H n1 (.r 49 1 1 [[.l 4 (l.map KC.av)]])) n2 (.r 49 1 1 [[.c (.slice none 0 0)]]) n2 = some (.r 49 1 1 [[.c (.slice none 0 0)]]) := upd_same _ _ _
  have k2 := hown'.get g1
  have ht := hown'.turn g1 (bxT x')
  have hle : Heap.le H (upd (upd (upd H n1 (.r 49 1 1 [[.l 4 (l.map KC.av)]])) n2 (.r 49 1 1 [[.c (.slice none 0 0)]])) n2 (bxT x')) := fun q b hq => by
    have c1 : ¬ q = n1 := by rintro rfl; rw [h1] at hq; cases hq
    have c2 : ¬ q = n2 := by rintro rfl; rw [h2.2] at hq; cases hq
    rw [upd_ne c2, upd_ne c2, upd_ne c1]; exact hq
  clear hown' g1
  replace ht := Lib.hid ht
  replace hle := Lib.hid hle
  (try simp only [push_cast, seval, *])
  repeat' (first
    | refine AW_seq_kn fun K hK => ?_
    | refine AW_block ?_
    | ((first
      | refine AW_region E0 ?_ | refine AW_ret ?_ | refine AW_exit ?_ | refine AW_skip ?_ | unfold retQ); try simp only [push_cast, seval, *])
    | (apply AW_cond; (case hc => (simp only [push_cast, seval]; rfl)); all_goals (intro hc; first | (exfalso; simp only [push_cast, seval, *] at hc; done) | (exact absurd hc (by decide)) | ((try first | rw [Bool.not_true] at hc | rw [Bool.not_false] at hc); first | (with_reducible replace hc := tTT hc); clear hc | (with_reducible replace hc := tFF hc); clear hc | (have hp := hc; try simp only [decide_eq_true_eq, decide_eq_false_iff_not, bA, bB, bC, bD, bE, bF, bG, bH] at hp))))
    | (refine Kn.go hK ?_; clear hK K)
    | refine Kn.go (by assumption) ?_
    | (intro n hn; (try simp only [upd_none2, join_none_iff, ite_none, ne_eq] at hn); (try simp only [push_cast, seval, *]))
    | (intro hc)
    | fail)
  exact ⟨_, _, ((unhid ht).weak fun F F' hF hi _ => Imp.g (Imps.cons hi (fun _ => rfl) Imps.nil)).trans (Weak.less (unhid hle)), rfl, rfl⟩

theorem spoil_o (l : List KC) (hl : l.length ≤ 100000) (x : AV) (B H0 : Heap) (hown : OwnL B x 80 4 (l.map KC.av) H0) : ACall Try.prog 39 [.g [x]] B fun _ H' => H' = H0 := by
  have hcs := hown.cs
  have hx1 := hown.one
  have hxl := hown.len
  rw [List.length_map] at hxl
  have hcg : (AV.g [x]).cs = some [x] := rfl
  replace hown := Lib.hid hown
  refine ACall_of' Try.func39 rfl (Ent_of Try.func39 (by kernel_rfl) rfl) (by simp [Try.ntmps39]) ?_; simp only [Try.ntmps39, Try.results39]
  repeat' (first
    | refine AW_seq_kn fun K hK => ?_
    | refine AW_block ?_
    | ((first
      | refine AW_region E0 ?_ | refine AW_ret ?_ | refine AW_exit ?_ | refine AW_skip ?_ | unfold retQ); try simp only [push_cast, seval, *])
    | (apply AW_cond; (case hc => (simp only [push_cast, seval]; rfl)); all_goals (intro hc; first | (exfalso; simp only [push_cast, seval, *] at hc; done) | (exact absurd hc (by decide)) | ((try first | rw [Bool.not_true] at hc | rw [Bool.not_false] at hc); first | (with_reducible replace hc := tTT hc); clear hc | (with_reducible replace hc := tFF hc); clear hc | (have hp := hc; try simp only [decide_eq_true_eq, decide_eq_false_iff_not, bA, bB, bC, bD, bE, bF, bG, bH] at hp))))
    | (refine Kn.go hK ?_; clear hK K)
    | refine Kn.go (by assumption) ?_
    | (intro n hn; (try simp only [upd_none2, join_none_iff, ite_none, ne_eq] at hn); (try simp only [push_cast, seval, *]))
    | (intro hc)
    | fail)
  have hH0n : H0 n = none := (unhid hown).none hn
  have o2 := (unhid hown).new hn (bxT x)
  have hle : Heap.le H0 (upd H0 n (bxT x)) := le_upd_new hH0n
  refine AW_loopX (σ := List KC × Heap) l.length (fun k s => s.1.length = l.length ∧ OwnL s.2 x 80 4 (s.1.map KC.av) (upd H0 n (bxT x))) (fun k s => [(1, .p n 1 0 0), (5, ci l.length), (6, ci k)]) (fun _ s => s.2) (l, upd B n (bxT x)) ⟨rfl, o2⟩ ?_ ?_ ?_ ?_
  · (first | trivial | (simp only [push_cast, seval, *]; done))
  · exact Heap.le_refl _
  · rintro k ⟨R, B'⟩ hk ⟨hRl, ho⟩
    simp only at hRl ho
    clear o2 hown
    obtain ⟨z, hz⟩ : ∃ z, R[k]? = some z := ⟨_, List.getElem?_eq_getElem (by omega)⟩
    have kn := ho.get (upd_same _ _ _)
    rcases ho.split with ⟨ad, rfl, e0, e1⟩ | ⟨m, cap, rfl, e1, hm⟩
    · exfalso; rw [List.map_eq_nil_iff.1 e0] at hz; simp at hz
    simp only [List.length_map, hRl] at hcs hxl hcg ho e1 kn hm hle ⊢
    have hkI : (k : Int) < l.length := by omega
    have hkw : IntKind.i64.wrap ((k : Int) + 1) = (k : Int) + 1 := wrap_i64 (by omega) (by omega)
    have km : B' m = some (.r 80 4 cap (R.map KC.av)) := by rw [e1]; exact upd_same _ _ _
    have hmn : ¬ m = n := by rintro rfl; rw [upd_same] at hm; cases hm
    have hnm : ¬ n = m := fun e => hmn e.symm
    obtain ⟨zs, zk, zn, zt⟩ := z
    have hset : (R.map KC.av).set k [.c (.int .i64 zs), .c (.int .i64 zk), .c (.int .i64 zn), .c (.int .i64 99)] = (R.set k ⟨zs, zk, zn, 99⟩).map KC.av := by rw [List.map_set]; rfl
    have hB'' : upd B' m (.r 80 4 cap ((R.set k ⟨zs, zk, zn, 99⟩).map KC.av)) = upd (upd H0 n (bxT (.s m 4 0 l.length cap))) m (.r 80 4 cap ((R.set k ⟨zs, zk, zn, 99⟩).map KC.av)) := by rw [e1, upd_upd]
    have ho2 : OwnL (upd (upd H0 n (bxT (.s m 4 0 l.length cap))) m (.r 80 4 cap ((R.set k ⟨zs, zk, zn, 99⟩).map KC.av))) (.s m 4 0 l.length cap) 80 4 ((R.set k ⟨zs, zk, zn, 99⟩).map KC.av) (upd H0 n (bxT (.s m 4 0 l.length cap))) := OwnL.at (by simp [hRl]) hm
    clear ho e1 hm hle
    replace ho2 := Lib.hid ho2
    replace hB'' := Lib.hid hB''
    replace hRl := Lib.hid hRl
    repeat' (first
    | refine AW_seq_kn fun K hK => ?_
    | refine AW_block ?_
    | ((first
      | refine AW_region E0 ?_ | refine AW_ret ?_ | refine AW_exit ?_ | refine AW_skip ?_ | unfold retQ); try simp only [push_cast, seval, *])
    | (apply AW_cond; (case hc => (simp only [push_cast, seval]; rfl)); all_goals (intro hc; first | (exfalso; simp only [push_cast, seval, *] at hc; done) | (exact absurd hc (by decide)) | ((try first | rw [Bool.not_true] at hc | rw [Bool.not_false] at hc); first | (with_reducible replace hc := tTT hc); clear hc | (with_reducible replace hc := tFF hc); clear hc | (have hp := hc; try simp only [decide_eq_true_eq, decide_eq_false_iff_not, bA, bB, bC, bD, bE, bF, bG, bH] at hp))))
    | (refine Kn.go hK ?_; clear hK K)
    | refine Kn.go (by assumption) ?_
    | (intro n hn; (try simp only [upd_none2, join_none_iff, ite_none, ne_eq] at hn); (try simp only [push_cast, seval, *]))
    | (intro hc)
    | fail)
    exact ⟨(R.set k ⟨zs, zk, zn, 99⟩, _), ⟨by simp only [List.length_set]; exact unhid hRl, unhid ho2⟩, by (first | trivial | (simp only [push_cast, seval, *]; done)), by rw [unhid hB'']; exact Heap.le_refl _⟩
  · rintro ⟨R, B'⟩ ⟨hRl, ho⟩
    simp only at ho
    have hf : Heap.le H0 B' := Heap.le_trans hle ho.le
    clear ho o2 hown hle
    replace hf := Lib.hid hf
    repeat' (first
    | refine AW_seq_kn fun K hK => ?_
    | refine AW_block ?_
    | ((first
      | refine AW_region E0 ?_ | refine AW_ret ?_ | refine AW_exit ?_ | refine AW_skip ?_ | unfold retQ); try simp only [push_cast, seval, *])
    | (apply AW_cond; (case hc => (simp only [push_cast, seval]; rfl)); all_goals (intro hc; first | (exfalso; simp only [push_cast, seval, *] at hc; done) | (exact absurd hc (by decide)) | ((try first | rw [Bool.not_true] at hc | rw [Bool.not_false] at hc); first | (with_reducible replace hc := tTT hc); clear hc | (with_reducible replace hc := tFF hc); clear hc | (have hp := hc; try simp only [decide_eq_true_eq, decide_eq_false_iff_not, bA, bB, bC, bD, bE, bF, bG, bH] at hp))))
    | (refine Kn.go hK ?_; clear hK K)
    | refine Kn.go (by assumption) ?_
    | (intro n hn; (try simp only [upd_none2, join_none_iff, ite_none, ne_eq] at hn); (try simp only [push_cast, seval, *]))
    | (intro hc)
    | fail)
    exact ⟨_, H0, Weak.less (unhid hf), rfl⟩
end Go.Proofs.Ytmkncbddjnaklaa
