/- Walks: keys of records; general lemmas. -/
import Derived.Test.YtfdedgeljijfdaaTY
import Derived.Test.YtfdedgeljijfdaaMD
namespace Go.Proofs.Ytfdedgeljijfdaa
open Go.RowKit
open Nat renaming reduceEqDiff → nA, reduceLT → nB, reduceLeDiff → nC, reduceAdd → nD, reduceMul → nE, reduceSub → nF, reduceBEq → nG
open Int renaming reduceToNat → iA, reduceLT → iB, reduceLE → iC, reduceEq → iD
open Bool renaming and_eq_true → bA, or_eq_true → bB, or_eq_false_iff → bC, and_eq_false_iff → bD, not_eq_true' → bE, not_eq_false' → bF, not_true → bG, not_false → bH
set_option linter.all false
set_option maxHeartbeats 4000000
attribute [local irreducible] AW Does ACall tE tS tB tZ
def dLA0 : List En := [(0, false, []), (1, false, []), (2, false, []), (3, false, []), (5, false, []), (6, true, []), (7, false, []), (8, true, []), (4, false, [6, 8]), (9, false, []), (10, false, []), (11, false, []), (12, false, [])]
def dAA0 : List (List Nat) := [[], [0], [], [2], [0, 1, 2, 3], [], [5], [], [7], [0, 1, 2, 3, 4, 5, 6, 7, 8], [0, 1, 2, 3, 4, 5, 6, 7, 8, 9], [0, 1, 2, 3, 4, 5, 6, 7, 8, 9, 10], [0, 1, 2, 3, 4, 5, 6, 7, 8, 9, 10, 11]]
attribute [push_cast] dLA0

abbrev i1 (n : Int) : List AV := [.c (.int .i64 n)]
attribute [push_cast] Nat.sub_zero List.drop_zero Int.toNat_natCast List.getElem?_map Int.natCast_nonneg List.length_map
theorem drop_get {α : Type} {l : List α} {k : Nat} {x : α} (hx : l[k]? = some x) : l.drop k = x :: l.drop (k + 1) := by
  obtain ⟨hk, rfl⟩ := List.getElem?_eq_some_iff.1 hx
  exact List.drop_eq_getElem_cons hk
theorem take_succ {α : Type} {l : List α} {k : Nat} {x : α} (hx : l[k]? = some x) : l.take (k + 1) = l.take k ++ [x] := by
  obtain ⟨hk, rfl⟩ := List.getElem?_eq_some_iff.1 hx
  rw [List.take_succ_eq_append_getElem hk]
theorem ownL_join {A B B0 : Heap} {x : AV} {ty : TypeId} {sz : Nat} {rows : List (List AV)} (hap : Apart A B) (h : OwnL B x ty sz rows B0) : OwnL (join A B) x ty sz rows (join A B0) := by
  rcases h with ⟨h1, h2, rfl⟩ | ⟨n, cap, h1, h2, rfl⟩
  · exact .inl ⟨h1, h2, rfl⟩
  · have hA : A n = none := by
      rcases hap n with g | g
      · exact g
      · rw [h2] at g; cases g
    refine .inr ⟨n, cap, h1, by rw [join_right hA]; exact h2, ?_⟩
    funext m
    unfold join del
    by_cases e : m = n
    · subst e; simp [hA]
    · simp [e]
theorem apart_le {A B B0 : Heap} (h : Apart A B) (hl : Heap.le B0 B) : Apart A B0 := fun n => by
  rcases h n with g | g
  · exact .inl g
  · refine .inr ?_
    cases hb : B0 n with
    | none => rfl
    | some k => rw [hl n k hb] at g; cases g


structure Rec where
  s : Int
  k : Int
  v : Int
  deriving DecidableEq
def Rec.av (r : Rec) : List AV := [.c (.int .i64 r.s), .c (.int .i64 r.k), .c (.int .i64 r.v)]
attribute [push_cast] Rec.av
def recOk (r : Rec) : Bool := decide (0 ≤ r.s) && decide (r.s < 8) && decide (0 ≤ r.k) && decide (r.k < 32)
theorem check_p (s k v : Int) : Pure Try.prog 14 [.g [.c (.int .i64 s), .c (.int .i64 k), .c (.int .i64 v)]] (.c (.int .i64 (if recOk ⟨s, k, v⟩ = true then 0 else 150))) := by
  intro H
  refine ACall_of' Try.func14 rfl (Ent_of Try.func14 (by kernel_rfl) rfl) (by simp [Try.ntmps14]) ?_; simp only [Try.ntmps14, Try.results14]
  repeat' (first
    | refine AW_seq_kn fun K hK => ?_
    | refine AW_block ?_
    | ((first
      | refine AW_region E0 ?_ | refine AW_ret ?_ | refine AW_exit ?_ | refine AW_skip ?_ | unfold retQ); try simp only [push_cast, seval, *])
    | ((first | (apply AW_cond; (case hc => (simp only [push_cast, seval]; rfl))) | (apply ER_guard; (case hb => (simp only [push_cast, seval]; rfl)))); all_goals ((intro hc; first | (exfalso; simp only [push_cast, seval, *] at hc; done) | (exact absurd hc (by decide)) | ((try first | rw [Bool.not_true] at hc | rw [Bool.not_false] at hc); first | (with_reducible replace hc := tTT hc); clear hc | (with_reducible replace hc := tFF hc); clear hc | (have hp := hc; try simp only [decide_eq_true_eq, decide_eq_false_iff_not, bA, bB, bC, bD, bE, bF, bG, bH] at hp))) <;> try simp only [push_cast, seval, *]))
    | (refine Kn.go hK ?_; clear hK K)
    | refine Kn.go (by assumption) ?_
    | (intro n hn; (try simp only [upd_none2, join_none_iff, ite_none, ne_eq] at hn); (try simp only [push_cast, seval, *]))
    | (intro hc)
    | (apply ER_blk; (case hp => rfl); (case hb => (simp only [push_cast, seval]; rfl)); (case hd => (simp only [push_cast, seval]; done)); (case h => (intro hc; simp only [push_cast, seval, *]; rfl)); simp only [push_cast, seval, *])
    | fail)
  all_goals (refine ⟨_, _, Weak.less (by (simp only [push_cast, seval, *])), ?_, rfl⟩; first | (with_reducible rfl) | (simp [recOk]; done) | (simp [*, recOk]; done) | (congr 2; rw [Bool.eq_iff_iff]; simp [recOk]; omega; done) | (congr 2; simp [recOk]; omega; done) | (simp_all [recOk]; done) | (split <;> simp_all [recOk]; done) | (simp_all [recOk] <;> omega))
theorem right5_p (s k v : Int) : Pure Try.prog 16 [.g [.c (.int .i64 s), .c (.int .i64 k), .c (.int .i64 v)]] (.c (.bool (recOk ⟨s, k, v⟩))) := by
  intro H
  refine ACall_of' Try.func16 rfl (Ent_of Try.func16 (by kernel_rfl) rfl) (by simp [Try.ntmps16]) ?_; simp only [Try.ntmps16, Try.results16]
  repeat' (first
    | refine AW_seq_kn fun K hK => ?_
    | refine AW_block ?_
    | ((first
      | refine AW_region E0 ?_ | refine AW_ret ?_ | refine AW_exit ?_ | refine AW_skip ?_ | unfold retQ); try simp only [push_cast, seval, *])
    | ((first | (apply AW_cond; (case hc => (simp only [push_cast, seval]; rfl))) | (apply ER_guard; (case hb => (simp only [push_cast, seval]; rfl)))); all_goals ((intro hc; first | (exfalso; simp only [push_cast, seval, *] at hc; done) | (exact absurd hc (by decide)) | ((try first | rw [Bool.not_true] at hc | rw [Bool.not_false] at hc); first | (with_reducible replace hc := tTT hc); clear hc | (with_reducible replace hc := tFF hc); clear hc | (have hp := hc; try simp only [decide_eq_true_eq, decide_eq_false_iff_not, bA, bB, bC, bD, bE, bF, bG, bH] at hp))) <;> try simp only [push_cast, seval, *]))
    | (refine Kn.go hK ?_; clear hK K)
    | refine Kn.go (by assumption) ?_
    | (intro n hn; (try simp only [upd_none2, join_none_iff, ite_none, ne_eq] at hn); (try simp only [push_cast, seval, *]))
    | (intro hc)
    | (apply ER_blk; (case hp => rfl); (case hb => (simp only [push_cast, seval]; rfl)); (case hd => (simp only [push_cast, seval]; done)); (case h => (intro hc; simp only [push_cast, seval, *]; rfl)); simp only [push_cast, seval, *])
    | fail)
  all_goals (refine ⟨_, _, Weak.less (by (simp only [push_cast, seval, *])), ?_, rfl⟩; first | (with_reducible rfl) | (simp [recOk]; done) | (simp [*, recOk]; done) | (congr 2; rw [Bool.eq_iff_iff]; simp [recOk]; omega; done) | (congr 2; simp [recOk]; omega; done) | (simp_all [recOk]; done) | (split <;> simp_all [recOk]; done) | (simp_all [recOk] <;> omega))
def cmpI (x y : Int) : Int := if x < y then -1 else if y < x then 1 else 0
theorem isNaN_p (x : Int) : Pure Try.prog 51 [.c (.int .i64 x)] (.c (.bool false)) := by
  intro H
  refine ACall_of' Try.func51 rfl (Ent_of Try.func51 (by kernel_rfl) rfl) (by simp [Try.ntmps51]) ?_; simp only [Try.ntmps51, Try.results51]
  repeat' (first
    | refine AW_seq_kn fun K hK => ?_
    | refine AW_block ?_
    | ((first
      | refine AW_region E0 ?_ | refine AW_ret ?_ | refine AW_exit ?_ | refine AW_skip ?_ | unfold retQ); try simp only [push_cast, seval, *])
    | (apply AW_cond; (case hc => (simp only [push_cast, seval]; rfl)); all_goals (intro hc; first | (exfalso; simp only [push_cast, seval, *] at hc; done) | (exact absurd hc (by decide)) | ((try first | rw [Bool.not_true] at hc | rw [Bool.not_false] at hc); first | (with_reducible replace hc := tTT hc); clear hc | (with_reducible replace hc := tFF hc); clear hc | (have hp := hc; try simp only [decide_eq_true_eq, decide_eq_false_iff_not, bA, bB, bC, bD, bE, bF, bG, bH] at hp))))
    | (refine Kn.go hK ?_; clear hK K)
    | refine Kn.go (by assumption) ?_
    | (intro n hn; (try simp only [upd_none2, join_none_iff, ite_none, ne_eq] at hn); (try simp only [push_cast, seval, *]))
    | (intro hc)
    | fail)
  exact ⟨_, _, Weak.less (by (simp only [push_cast, seval, *])), by simp, rfl⟩
theorem cmpI_p (x y : Int) : Pure Try.prog 41 [.c (.int .i64 x), .c (.int .i64 y)] (.c (.int .i64 (cmpI x y))) := by
  intro H
  have hx := isNaN_p x
  have hy := isNaN_p y
  refine ACall_of' Try.func41 rfl (Ent_of Try.func41 (by kernel_rfl) rfl) (by simp [Try.ntmps41]) ?_; simp only [Try.ntmps41, Try.results41]
  repeat' (first
    | refine AW_seq_kn fun K hK => ?_
    | refine AW_block ?_
    | (refine does_call rfl rfl ?_; simp only [push_cast, seval, *]; refine ACall.monoP (hx _) ?_; (try simp only [push_cast, seval, *]))
    | (refine does_call rfl rfl ?_; simp only [push_cast, seval, *]; refine ACall.monoP (hy _) ?_; (try simp only [push_cast, seval, *]))
    | ((first
      | refine AW_region E0 ?_ | refine AW_ret ?_ | refine AW_exit ?_ | refine AW_skip ?_ | unfold retQ); try simp only [push_cast, seval, *])
    | (apply AW_cond; (case hc => (simp only [push_cast, seval]; rfl)); all_goals (intro hc; first | (exfalso; simp only [push_cast, seval, *] at hc; done) | (exact absurd hc (by decide)) | ((try first | rw [Bool.not_true] at hc | rw [Bool.not_false] at hc); first | (with_reducible replace hc := tTT hc); clear hc | (with_reducible replace hc := tFF hc); clear hc | (have hp := hc; try simp only [decide_eq_true_eq, decide_eq_false_iff_not, bA, bB, bC, bD, bE, bF, bG, bH] at hp))))
    | (refine Kn.go hK ?_; clear hK K)
    | refine Kn.go (by assumption) ?_
    | (intro n hn; (try simp only [upd_none2, join_none_iff, ite_none, ne_eq] at hn); (try simp only [push_cast, seval, *]))
    | (intro hc)
    | fail)
  all_goals (refine ⟨_, _, Weak.less (by (simp only [push_cast, seval, *])), ?_, rfl⟩; first | (with_reducible rfl) | (simp [cmpI]; done) | (simp [*, cmpI]; done) | (congr 2; rw [Bool.eq_iff_iff]; simp [cmpI]; omega; done) | (congr 2; simp [cmpI]; omega; done) | (simp_all [cmpI]; done) | (split <;> simp_all [cmpI]; done) | (simp_all [cmpI] <;> omega))
def orS : List Int → Int
  | [] => 0
  | x :: l => if x = 0 then orS l else x
theorem or_p (l : List Int) (hl : l.length ≤ maxLen) : Pure Try.prog 40 [.l 1 (l.map i1)] (.c (.int .i64 (orS l))) := by
  intro H
  unfold maxLen at hl
  obtain ⟨R, hR⟩ : ∃ R, R = orS l := ⟨_, rfl⟩
  rw [← hR]
  replace hR := Lib.hid hR
  refine ACall_of' Try.func40 rfl (Ent_of Try.func40 (by kernel_rfl) rfl) (by simp [Try.ntmps40]) ?_; simp only [Try.ntmps40, Try.results40]
  repeat' (first
    | refine AW_seq_kn fun K hK => ?_
    | refine AW_block ?_
    | ((first
      | refine AW_region E0 ?_ | refine AW_ret ?_ | refine AW_exit ?_ | refine AW_skip ?_ | unfold retQ); try simp only [push_cast, seval, *])
    | (apply AW_cond; (case hc => (simp only [push_cast, seval]; rfl)); all_goals (intro hc; first | (exfalso; simp only [push_cast, seval, *] at hc; done) | (exact absurd hc (by decide)) | ((try first | rw [Bool.not_true] at hc | rw [Bool.not_false] at hc); first | (with_reducible replace hc := tTT hc); clear hc | (with_reducible replace hc := tFF hc); clear hc | (have hp := hc; try simp only [decide_eq_true_eq, decide_eq_false_iff_not, bA, bB, bC, bD, bE, bF, bG, bH] at hp))))
    | (refine Kn.go hK ?_; clear hK K)
    | refine Kn.go (by assumption) ?_
    | (intro n hn; (try simp only [upd_none2, join_none_iff, ite_none, ne_eq] at hn); (try simp only [push_cast, seval, *]))
    | (intro hc)
    | fail)
  refine AW_loopN l.length (fun k => R = orS (l.drop k)) (fun k => [(3, ci 0), (6, .l 1 (l.map i1)), (7, ci l.length), (8, ci k)]) (fun _ => H) (unhid hR) ?_ ?_ ?_ ?_
  · (first | trivial | (simp only [push_cast, seval, *]; done))
  · (first | trivial | ((simp only [push_cast, seval, *]); repeat' (first | rfl | exact Heap.le_refl _ | refine And.intro ?_ ?_)) | rfl | exact ⟨rfl, rfl⟩ | exact ⟨rfl, rfl, rfl⟩ | exact Heap.le_refl _)
  · intro k hk hinv
    have hx := List.getElem?_eq_getElem (l := l) hk; generalize l[k] = x at hx; have hxm := List.mem_of_getElem? hx; have hkl : (k : Int) < l.length := (by omega); have hkw : IntKind.i64.wrap ((k : Int) + 1) = (k : Int) + 1 := wrap_i64 (by omega) (by omega)
    have hi1 : i1 x = [.c (.int .i64 x)] := rfl
    rw [drop_get hx] at hinv
    simp only [orS] at hinv
    by_cases h0 : x = 0
    · rw [if_pos h0] at hinv
      replace hinv := Lib.hid hinv
      repeat' (first
    | refine AW_seq_kn fun K hK => ?_
    | refine AW_block ?_
    | ((first
      | refine AW_region E0 ?_ | refine AW_ret ?_ | refine AW_exit ?_ | refine AW_skip ?_ | unfold retQ); try simp only [push_cast, seval, *])
    | (apply AW_cond; (case hc => (simp only [push_cast, seval]; rfl)); all_goals (intro hc; first | (exfalso; simp only [push_cast, seval, *] at hc; done) | (exact absurd hc (by decide)) | ((try first | rw [Bool.not_true] at hc | rw [Bool.not_false] at hc); first | (with_reducible replace hc := tTT hc); clear hc | (with_reducible replace hc := tFF hc); clear hc | (have hp := hc; try simp only [decide_eq_true_eq, decide_eq_false_iff_not, bA, bB, bC, bD, bE, bF, bG, bH] at hp))))
    | (refine Kn.go hK ?_; clear hK K)
    | refine Kn.go (by assumption) ?_
    | (intro n hn; (try simp only [upd_none2, join_none_iff, ite_none, ne_eq] at hn); (try simp only [push_cast, seval, *]))
    | (intro hc)
    | fail)
      exact ⟨unhid hinv, by (first | trivial | (simp only [push_cast, seval, *]; done)), by (first | trivial | ((simp only [push_cast, seval, *]); repeat' (first | rfl | exact Heap.le_refl _ | refine And.intro ?_ ?_)) | rfl | exact ⟨rfl, rfl⟩ | exact ⟨rfl, rfl, rfl⟩ | exact Heap.le_refl _)⟩
    · rw [if_neg h0] at hinv
      subst hinv
      clear hR
      repeat' (first
    | refine AW_seq_kn fun K hK => ?_
    | refine AW_block ?_
    | ((first
      | refine AW_region E0 ?_ | refine AW_ret ?_ | refine AW_exit ?_ | refine AW_skip ?_ | unfold retQ); try simp only [push_cast, seval, *])
    | (apply AW_cond; (case hc => (simp only [push_cast, seval]; rfl)); all_goals (intro hc; first | (exfalso; simp only [push_cast, seval, *] at hc; done) | (exact absurd hc (by decide)) | ((try first | rw [Bool.not_true] at hc | rw [Bool.not_false] at hc); first | (with_reducible replace hc := tTT hc); clear hc | (with_reducible replace hc := tFF hc); clear hc | (have hp := hc; try simp only [decide_eq_true_eq, decide_eq_false_iff_not, bA, bB, bC, bD, bE, bF, bG, bH] at hp))))
    | (refine Kn.go hK ?_; clear hK K)
    | refine Kn.go (by assumption) ?_
    | (intro n hn; (try simp only [upd_none2, join_none_iff, ite_none, ne_eq] at hn); (try simp only [push_cast, seval, *]))
    | (intro hc)
    | fail)
      exact ⟨_, _, Weak.less (by (simp only [push_cast, seval, *])), rfl, rfl⟩
  · intro hinv
    rw [List.drop_length] at hinv
    simp only [orS] at hinv
    subst hinv
    clear hR
    repeat' (first
    | refine AW_seq_kn fun K hK => ?_
    | refine AW_block ?_
    | ((first
      | refine AW_region E0 ?_ | refine AW_ret ?_ | refine AW_exit ?_ | refine AW_skip ?_ | unfold retQ); try simp only [push_cast, seval, *])
    | (apply AW_cond; (case hc => (simp only [push_cast, seval]; rfl)); all_goals (intro hc; first | (exfalso; simp only [push_cast, seval, *] at hc; done) | (exact absurd hc (by decide)) | ((try first | rw [Bool.not_true] at hc | rw [Bool.not_false] at hc); first | (with_reducible replace hc := tTT hc); clear hc | (with_reducible replace hc := tFF hc); clear hc | (have hp := hc; try simp only [decide_eq_true_eq, decide_eq_false_iff_not, bA, bB, bC, bD, bE, bF, bG, bH] at hp))))
    | (refine Kn.go hK ?_; clear hK K)
    | refine Kn.go (by assumption) ?_
    | (intro n hn; (try simp only [upd_none2, join_none_iff, ite_none, ne_eq] at hn); (try simp only [push_cast, seval, *]))
    | (intro hc)
    | fail)
    exact ⟨_, _, Weak.less (by (simp only [push_cast, seval, *])), rfl, rfl⟩
def cmpR (a b : Rec) : Int := orS [cmpI a.s b.s, cmpI a.k b.k]
theorem compare_p (a b : Rec) : Pure Try.prog 19 [.g (Rec.av a), .g (Rec.av b)] (.c (.int .i64 (cmpR a b))) := by
  intro H
  have h1 := cmpI_p a.s b.s
  have h2 := cmpI_p a.k b.k
  have h3 := or_p [cmpI a.s b.s, cmpI a.k b.k] (by simp [maxLen])
  unfold cmpR
  generalize orS [cmpI a.s b.s, cmpI a.k b.k] = R at *
  generalize cmpI a.s b.s = c1 at *
  generalize cmpI a.k b.k = c2 at *
  obtain ⟨s, k, v⟩ := a
  obtain ⟨s2, k2, v2⟩ := b
  simp only [List.map_cons, List.map_nil, i1] at h1 h2 h3
  simp only [Rec.av]
  replace h3 := Lib.hid h3
  refine ACall_of' Try.func19 rfl (Ent_of Try.func19 (by kernel_rfl) rfl) (by simp [Try.ntmps19]) ?_; simp only [Try.ntmps19, Try.results19]
  repeat' (first
    | refine AW_seq_kn fun K hK => ?_
    | refine AW_block ?_
    | (refine does_call rfl rfl ?_; simp only [push_cast, seval, *]; refine ACall.monoP (h1 _) ?_; (try simp only [push_cast, seval, *]))
    | (refine does_call rfl rfl ?_; simp only [push_cast, seval, *]; refine ACall.monoP (h2 _) ?_; (try simp only [push_cast, seval, *]))
    | ((first
      | refine AW_region_draw (id := 1) E0 (fun f => [].contains f) dLA0 dAA0 mixed (by kernel_rfl) ?_
      | refine AW_region E0 ?_ | refine AW_ret ?_ | refine AW_exit ?_ | refine AW_skip ?_ | unfold retQ); try simp only [push_cast, seval, *])
    | (apply AW_cond; (case hc => (simp only [push_cast, seval]; rfl)); all_goals (intro hc; first | (exfalso; simp only [push_cast, seval, *] at hc; done) | (exact absurd hc (by decide)) | ((try first | rw [Bool.not_true] at hc | rw [Bool.not_false] at hc); first | (with_reducible replace hc := tTT hc); clear hc | (with_reducible replace hc := tFF hc); clear hc | (have hp := hc; try simp only [decide_eq_true_eq, decide_eq_false_iff_not, bA, bB, bC, bD, bE, bF, bG, bH] at hp))))
    | (refine Kn.go hK ?_; clear hK K)
    | refine Kn.go (by assumption) ?_
    | (intro n hn; (try simp only [upd_none2, join_none_iff, ite_none, ne_eq] at hn); (try simp only [push_cast, seval, *]))
    | (intro hc)
    | fail)
  refine does_call rfl rfl ?_
  simp only [push_cast, seval, *]
  refine ACall.mono (ACall.lend (args' := [.l 1 [[.c (.int .i64 c1)], [.c (.int .i64 c2)]]]) (Flat.c _) (show Lent _ _ _ ∧ True from ⟨Lent.s (rows := [[.c (.int .i64 c1)], [.c (.int .i64 c2)]]) (by simp only [push_cast, seval, *]; rfl), trivial⟩) (unhid h3).cl) ?_
  rintro _ _ ⟨rfl, e2⟩
  have e3 := e2.symm; clear e2; subst e3
  (try simp only [push_cast, seval, *])
  repeat' (first
    | refine AW_seq_kn fun K hK => ?_
    | refine AW_block ?_
    | ((first
      | refine AW_region_draw (id := 1) E0 (fun f => [].contains f) dLA0 dAA0 mixed (by kernel_rfl) ?_
      | refine AW_region E0 ?_ | refine AW_ret ?_ | refine AW_exit ?_ | refine AW_skip ?_ | unfold retQ); try simp only [push_cast, seval, *])
    | (apply AW_cond; (case hc => (simp only [push_cast, seval]; rfl)); all_goals (intro hc; first | (exfalso; simp only [push_cast, seval, *] at hc; done) | (exact absurd hc (by decide)) | ((try first | rw [Bool.not_true] at hc | rw [Bool.not_false] at hc); first | (with_reducible replace hc := tTT hc); clear hc | (with_reducible replace hc := tFF hc); clear hc | (have hp := hc; try simp only [decide_eq_true_eq, decide_eq_false_iff_not, bA, bB, bC, bD, bE, bF, bG, bH] at hp))))
    | (refine Kn.go hK ?_; clear hK K)
    | refine Kn.go (by assumption) ?_
    | (intro n hn; (try simp only [upd_none2, join_none_iff, ite_none, ne_eq] at hn); (try simp only [push_cast, seval, *]))
    | (intro hc)
    | fail)
  exact ⟨_, _, Weak.less (by (simp only [push_cast, seval, *])), rfl, rfl⟩

theorem cmpR_neg {a b : Rec} : cmpR a b < 0 ↔ (a.s < b.s ∨ (a.s = b.s ∧ a.k < b.k)) := by
  unfold cmpR orS cmpI orS orS
  repeat' split
  all_goals omega
theorem cmpR_zero {a b : Rec} : cmpR a b = 0 ↔ (a.s = b.s ∧ a.k = b.k) := by
  unfold cmpR orS cmpI orS orS
  repeat' split
  all_goals omega
theorem cmpR_pos {a b : Rec} : 0 < cmpR a b ↔ (b.s < a.s ∨ (a.s = b.s ∧ b.k < a.k)) := by
  unfold cmpR orS cmpI orS orS
  repeat' split
  all_goals omega
theorem cmpR_val (a b : Rec) : cmpR a b = -1 ∨ cmpR a b = 0 ∨ cmpR a b = 1 := by
  unfold cmpR orS cmpI orS orS
  repeat' split
  all_goals omega
theorem compare5_p (a b : Rec) : Pure Try.prog 18 [.g (Rec.av a), .g (Rec.av b)] (.c (.int .i64 (cmpR a b))) := by
  intro H
  have hn := cmpR_neg (a := a) (b := b)
  have hz := cmpR_zero (a := a) (b := b)
  have hv := cmpR_val a b
  generalize cmpR a b = R at *
  obtain ⟨s, k, v⟩ := a
  obtain ⟨s2, k2, v2⟩ := b
  simp only at hn hz
  simp only [Rec.av]
  have hs : ((s < s2) = True ∧ (s = s2) = False) ∨ ((s < s2) = False ∧ (s = s2) = True) ∨ ((s < s2) = False ∧ (s = s2) = False) := by
    simp only [eq_iff_iff, iff_true, iff_false]; omega
  have hk : ((k < k2) = True ∧ (k = k2) = False) ∨ ((k < k2) = False ∧ (k = k2) = True) ∨ ((k < k2) = False ∧ (k = k2) = False) := by
    simp only [eq_iff_iff, iff_true, iff_false]; omega
  have hR : R = if s < s2 ∨ (s = s2 ∧ k < k2) then -1 else if s = s2 ∧ k = k2 then 0 else 1 := by
    split
    · rename_i h; have := hn.2 h; omega
    · split
      · rename_i h; exact hz.2 h
      · rename_i h1 h2; have : ¬ R < 0 := fun h => h1 (hn.1 h); have : ¬ R = 0 := fun h => h2 (hz.1 h); omega
  clear hn hz hv
  rcases hs with ⟨s1, s3⟩ | ⟨s1, s3⟩ | ⟨s1, s3⟩
  all_goals
    rcases hk with ⟨k1, k3⟩ | ⟨k1, k3⟩ | ⟨k1, k3⟩
    all_goals
      simp only [s1, s3, k1, k3, true_and, false_and, and_true, and_false, or_true, or_false, true_or, false_or, if_true, if_false] at hR
      subst hR
      refine ACall_of' Try.func18 rfl (Ent_of Try.func18 (by kernel_rfl) rfl) (by simp [Try.ntmps18]) ?_; simp only [Try.ntmps18, Try.results18]
      repeat' (first
    | refine AW_seq_kn fun K hK => ?_
    | refine AW_block ?_
    | ((first
      | refine AW_region E0 ?_ | refine AW_ret ?_ | refine AW_exit ?_ | refine AW_skip ?_ | unfold retQ); try simp only [push_cast, seval, *])
    | ((first | (apply AW_cond; (case hc => (simp only [push_cast, seval]; rfl))) | (apply ER_guard; (case hb => (simp only [push_cast, seval]; rfl)))); all_goals ((intro hc; first | (exfalso; simp only [push_cast, seval, *] at hc; done) | (exact absurd hc (by decide)) | ((try first | rw [Bool.not_true] at hc | rw [Bool.not_false] at hc); first | (with_reducible replace hc := tTT hc); clear hc | (with_reducible replace hc := tFF hc); clear hc | (have hp := hc; try simp only [decide_eq_true_eq, decide_eq_false_iff_not, bA, bB, bC, bD, bE, bF, bG, bH] at hp))) <;> try simp only [push_cast, seval, *]))
    | (refine Kn.go hK ?_; clear hK K)
    | refine Kn.go (by assumption) ?_
    | (intro n hn; (try simp only [upd_none2, join_none_iff, ite_none, ne_eq] at hn); (try simp only [push_cast, seval, *]))
    | (intro hc)
    | (apply ER_blk; (case hp => rfl); (case hb => (simp only [push_cast, seval]; rfl)); (case hd => (simp only [push_cast, seval]; done)); (case h => (intro hc; simp only [push_cast, seval, *]; rfl)); simp only [push_cast, seval, *])
    | fail)
      exact ⟨_, _, Weak.less (by (simp only [push_cast, seval, *])), rfl, rfl⟩

theorem sameKey_p (a b : Rec) : Pure Try.prog 20 [.g (Rec.av a), .g (Rec.av b)] (.c (.bool (decide (cmpR a b = 0)))) := by
  intro H
  have hc := compare_p a b
  generalize cmpR a b = R at *
  obtain ⟨s, k, v⟩ := a
  obtain ⟨s2, k2, v2⟩ := b
  simp only [Rec.av] at hc ⊢
  refine ACall_of' Try.func20 rfl (Ent_of Try.func20 (by kernel_rfl) rfl) (by simp [Try.ntmps20]) ?_; simp only [Try.ntmps20, Try.results20]
  repeat' (first
    | refine AW_seq_kn fun K hK => ?_
    | refine AW_block ?_
    | (refine does_call rfl rfl ?_; simp only [push_cast, seval, *]; refine ACall.monoP (hc _) ?_; (try simp only [push_cast, seval, *]))
    | (refine does_call rfl rfl ?_; simp only [push_cast, seval, *]; refine ACall.monoP (compare_p ⟨_, _, _⟩ ⟨_, _, _⟩ _) ?_; (try simp only [push_cast, seval, *]))
    | ((first
      | refine AW_region E0 ?_ | refine AW_ret ?_ | refine AW_exit ?_ | refine AW_skip ?_ | unfold retQ); try simp only [push_cast, seval, *])
    | (apply AW_cond; (case hc => (simp only [push_cast, seval]; rfl)); all_goals (intro hc; first | (exfalso; simp only [push_cast, seval, *] at hc; done) | (exact absurd hc (by decide)) | ((try first | rw [Bool.not_true] at hc | rw [Bool.not_false] at hc); first | (with_reducible replace hc := tTT hc); clear hc | (with_reducible replace hc := tFF hc); clear hc | (have hp := hc; try simp only [decide_eq_true_eq, decide_eq_false_iff_not, bA, bB, bC, bD, bE, bF, bG, bH] at hp))))
    | (refine Kn.go hK ?_; clear hK K)
    | refine Kn.go (by assumption) ?_
    | (intro n hn; (try simp only [upd_none2, join_none_iff, ite_none, ne_eq] at hn); (try simp only [push_cast, seval, *]))
    | (intro hc)
    | fail)
  exact ⟨_, _, Weak.less (by (simp only [push_cast, seval, *])), rfl, rfl⟩

end Go.Proofs.Ytfdedgeljijfdaa
