/- Walks: records, names of transactions, their order. -/
import Derived.Test.YtdeckjoeggmagaaTY
import Derived.Test.YtdeckjoeggmagaaMD
namespace Go.Proofs.Ytdeckjoeggmagaa
open Go.RowKit
open Nat renaming reduceEqDiff → nA, reduceLT → nB, reduceLeDiff → nC, reduceAdd → nD, reduceMul → nE, reduceSub → nF, reduceBEq → nG
open Int renaming reduceToNat → iA, reduceLT → iB, reduceLE → iC, reduceEq → iD
open Bool renaming and_eq_true → bA, or_eq_true → bB, or_eq_false_iff → bC, and_eq_false_iff → bD, not_eq_true' → bE, not_eq_false' → bF, not_true → bG, not_false → bH
set_option linter.all false
set_option maxHeartbeats 4000000
attribute [local irreducible] AW Does ACall tE tS tB tZ
def dLA0 : List En := [(0, false, []), (1, false, []), (2, false, []), (3, false, []), (5, false, []), (6, true, []), (7, false, []), (8, true, []), (4, false, [6, 8]), (9, false, []), (10, false, []), (11, false, []), (12, false, [])]
def dAA0 : List (List Nat) := [[], [0], [], [2], [0, 1, 2, 3], [], [5], [], [7], [0, 1, 2, 3, 4, 5, 6, 7, 8], [0, 1, 2, 3, 4, 5, 6, 7, 8, 9], [0, 1, 2, 3, 4, 5, 6, 7, 8, 9, 10], [0, 1, 2, 3, 4, 5, 6, 7, 8, 9, 10, 11]]
attribute [push_cast] dLA0
def dLA1 : List En := [(0, false, []), (1, false, []), (2, false, []), (3, false, []), (5, false, []), (6, true, []), (7, false, []), (8, true, []), (10, false, []), (11, true, []), (12, false, []), (13, true, []), (4, false, [6, 8, 11, 13]), (9, false, [11, 13]), (14, false, []), (15, false, []), (16, false, []), (17, false, [])]
def dAA1 : List (List Nat) := [[], [0], [], [2], [0, 1, 2, 3], [], [5], [], [7], [0, 1, 2, 3, 4, 5, 6, 7, 8], [], [10], [], [12], [0, 1, 2, 3, 4, 5, 6, 7, 8, 9, 10, 11, 12, 13], [0, 1, 2, 3, 4, 5, 6, 7, 8, 9, 10, 11, 12, 13, 14], [0, 1, 2, 3, 4, 5, 6, 7, 8, 9, 10, 11, 12, 13, 14, 15], [0, 1, 2, 3, 4, 5, 6, 7, 8, 9, 10, 11, 12, 13, 14, 15, 16]]
attribute [push_cast] dLA1

attribute [push_cast] Nat.sub_zero List.drop_zero Int.toNat_natCast List.getElem?_map Int.natCast_nonneg List.length_map
theorem drop_get {α : Type} {l : List α} {k : Nat} {x : α} (hx : l[k]? = some x) : l.drop k = x :: l.drop (k + 1) := by
  obtain ⟨hk, rfl⟩ := List.getElem?_eq_some_iff.1 hx
  exact List.drop_eq_getElem_cons hk
abbrev i1 (n : Int) : List AV := [.c (.int .i64 n)]
structure Rec where
  s : Int
  k : Int
  v : Int
  deriving DecidableEq
def Rec.av (r : Rec) : List AV := [.c (.int .i64 r.s), .c (.int .i64 r.k), .c (.int .i64 r.v)]
structure Nm where
  s : Int
  a : Int
  n : Int
  deriving DecidableEq
def Nm.av (x : Nm) : List AV := [.c (.int .i64 x.s), .c (.int .i64 x.a), .c (.int .i64 x.n)]
structure Tx where
  nm : Nm
  st : Int
  rs : List Rec
  deriving DecidableEq
def Tx.av (t : Tx) : List AV := [.c (.int .i64 t.nm.s), .c (.int .i64 t.nm.a), .c (.int .i64 t.nm.n), .c (.int .i64 t.st), .l 3 (t.rs.map Rec.av)]
structure Lg where
  txs : List Tx
  done : List Nm
  log : List Rec
  deriving DecidableEq
def Lg.av (l : Lg) : List AV := [.l 5 (l.txs.map Tx.av), .l 3 (l.done.map Nm.av), .l 3 (l.log.map Rec.av)]
attribute [push_cast] Rec.av Nm.av Tx.av Lg.av
def recOk (r : Rec) : Bool := decide (0 ≤ r.s) && decide (r.s < 8) && decide (0 ≤ r.k) && decide (r.k < 32)
theorem check_p (s k v : Int) : Pure Try.prog 60 [.g [.c (.int .i64 s), .c (.int .i64 k), .c (.int .i64 v)]] (.c (.int .i64 (if recOk ⟨s, k, v⟩ = true then 0 else 150))) := by
  intro H
  refine ACall_of' Try.func60 rfl (Ent_of Try.func60 (by kernel_rfl) rfl) (by simp [Try.ntmps60]) ?_; simp only [Try.ntmps60, Try.results60]
  repeat' (first
    | refine AW_seq_kn fun K hK => ?_
    | refine AW_block ?_
    | ((first
      | refine AW_region E0 ?_ | refine AW_ret ?_ | refine AW_exit ?_ | refine AW_skip ?_ | unfold retQ); try simp only [push_cast, seval, *])
    | ((first | (apply AW_cond; (case hc => (simp only [push_cast, seval]; rfl))) | (apply ER_guard; (case hb => (simp only [push_cast, seval]; rfl)))); all_goals ((intro hc; first | (exfalso; simp only [push_cast, seval, *] at hc; done) | (exact absurd hc (by decide)) | ((try first | rw [Bool.not_true] at hc | rw [Bool.not_false] at hc); first | (with_reducible replace hc := tTT hc); clear hc | (with_reducible replace hc := tFF hc); clear hc | (have hp := hc; try simp only [decide_eq_true_eq, decide_eq_false_iff_not, bA, bB, bC, bD, bE, bF, bG, bH] at hp))) <;> try simp only [push_cast, seval, *]))
    | (refine Kn.go hK ?_; clear hK K)
    | refine Kn.go (by assumption) ?_
    | (intro n hn; (try simp only [upd_none2, join_none_iff, ite_none, ne_eq] at hn); (try simp only [push_cast, seval, *]))
    | (intro hc)
    | (apply ER_blk; (case hp => rfl); (case hb => (simp only [push_cast, seval]; rfl)); (case hd => (simp only [push_cast, seval]; done)); (case h => (intro hc; simp only [push_cast, seval, *]; rfl)); simp only [push_cast, seval, *])
    | fail)
  all_goals (refine ⟨_, _, Weak.less (by (simp only [push_cast, seval, *])), ?_, rfl⟩; first | (with_reducible rfl) | (simp [recOk]; done) | (simp [*, recOk]; done) | (congr 2; rw [Bool.eq_iff_iff]; simp [recOk]; omega; done) | (congr 2; simp [recOk]; omega; done) | (simp_all [recOk]; done) | (split <;> simp_all [recOk]; done) | (simp_all [recOk] <;> omega))
theorem right5_p (s k v : Int) : Pure Try.prog 63 [.g [.c (.int .i64 s), .c (.int .i64 k), .c (.int .i64 v)]] (.c (.bool (recOk ⟨s, k, v⟩))) := by
  intro H
  refine ACall_of' Try.func63 rfl (Ent_of Try.func63 (by kernel_rfl) rfl) (by simp [Try.ntmps63]) ?_; simp only [Try.ntmps63, Try.results63]
  repeat' (first
    | refine AW_seq_kn fun K hK => ?_
    | refine AW_block ?_
    | ((first
      | refine AW_region E0 ?_ | refine AW_ret ?_ | refine AW_exit ?_ | refine AW_skip ?_ | unfold retQ); try simp only [push_cast, seval, *])
    | ((first | (apply AW_cond; (case hc => (simp only [push_cast, seval]; rfl))) | (apply ER_guard; (case hb => (simp only [push_cast, seval]; rfl)))); all_goals ((intro hc; first | (exfalso; simp only [push_cast, seval, *] at hc; done) | (exact absurd hc (by decide)) | ((try first | rw [Bool.not_true] at hc | rw [Bool.not_false] at hc); first | (with_reducible replace hc := tTT hc); clear hc | (with_reducible replace hc := tFF hc); clear hc | (have hp := hc; try simp only [decide_eq_true_eq, decide_eq_false_iff_not, bA, bB, bC, bD, bE, bF, bG, bH] at hp))) <;> try simp only [push_cast, seval, *]))
    | (refine Kn.go hK ?_; clear hK K)
    | refine Kn.go (by assumption) ?_
    | (intro n hn; (try simp only [upd_none2, join_none_iff, ite_none, ne_eq] at hn); (try simp only [push_cast, seval, *]))
    | (intro hc)
    | (apply ER_blk; (case hp => rfl); (case hb => (simp only [push_cast, seval]; rfl)); (case hd => (simp only [push_cast, seval]; done)); (case h => (intro hc; simp only [push_cast, seval, *]; rfl)); simp only [push_cast, seval, *])
    | fail)
  all_goals (refine ⟨_, _, Weak.less (by (simp only [push_cast, seval, *])), ?_, rfl⟩; first | (with_reducible rfl) | (simp [recOk]; done) | (simp [*, recOk]; done) | (congr 2; rw [Bool.eq_iff_iff]; simp [recOk]; omega; done) | (congr 2; simp [recOk]; omega; done) | (simp_all [recOk]; done) | (split <;> simp_all [recOk]; done) | (simp_all [recOk] <;> omega))
def cmpI (x y : Int) : Int := if x < y then -1 else if y < x then 1 else 0
theorem isNaN_p (x : Int) : Pure Try.prog 98 [.c (.int .i64 x)] (.c (.bool false)) := by
  intro H
  refine ACall_of' Try.func98 rfl (Ent_of Try.func98 (by kernel_rfl) rfl) (by simp [Try.ntmps98]) ?_; simp only [Try.ntmps98, Try.results98]
  repeat' (first
    | refine AW_seq_kn fun K hK => ?_
    | refine AW_block ?_
    | ((first
      | refine AW_region E0 ?_ | refine AW_ret ?_ | refine AW_exit ?_ | refine AW_skip ?_ | unfold retQ); try simp only [push_cast, seval, *])
    | (apply AW_cond; (case hc => (simp only [push_cast, seval]; rfl)); all_goals (intro hc; first | (exfalso; simp only [push_cast, seval, *] at hc; done) | (exact absurd hc (by decide)) | ((try first | rw [Bool.not_true] at hc | rw [Bool.not_false] at hc); first | (with_reducible replace hc := tTT hc); clear hc | (with_reducible replace hc := tFF hc); clear hc | (have hp := hc; try simp only [decide_eq_true_eq, decide_eq_false_iff_not, bA, bB, bC, bD, bE, bF, bG, bH] at hp))))
    | (refine Kn.go hK ?_; clear hK K)
    | refine Kn.go (by assumption) ?_
    | (intro n hn; (try simp only [upd_none2, join_none_iff, ite_none, ne_eq] at hn); (try simp only [push_cast, seval, *]))
    | (intro hc)
    | fail)
  exact ⟨_, _, Weak.less (by (simp only [push_cast, seval, *])), by simp, rfl⟩
theorem cmpI_p (x y : Int) : Pure Try.prog 58 [.c (.int .i64 x), .c (.int .i64 y)] (.c (.int .i64 (cmpI x y))) := by
  intro H
  have hx := isNaN_p x
  have hy := isNaN_p y
  refine ACall_of' Try.func58 rfl (Ent_of Try.func58 (by kernel_rfl) rfl) (by simp [Try.ntmps58]) ?_; simp only [Try.ntmps58, Try.results58]
  repeat' (first
    | refine AW_seq_kn fun K hK => ?_
    | refine AW_block ?_
    | (refine does_call rfl rfl ?_; simp only [push_cast, seval, *]; refine ACall.monoP (hx _) ?_; (try simp only [push_cast, seval, *]))
    | (refine does_call rfl rfl ?_; simp only [push_cast, seval, *]; refine ACall.monoP (hy _) ?_; (try simp only [push_cast, seval, *]))
    | ((first
      | refine AW_region E0 ?_ | refine AW_ret ?_ | refine AW_exit ?_ | refine AW_skip ?_ | unfold retQ); try simp only [push_cast, seval, *])
    | (apply AW_cond; (case hc => (simp only [push_cast, seval]; rfl)); all_goals (intro hc; first | (exfalso; simp only [push_cast, seval, *] at hc; done) | (exact absurd hc (by decide)) | ((try first | rw [Bool.not_true] at hc | rw [Bool.not_false] at hc); first | (with_reducible replace hc := tTT hc); clear hc | (with_reducible replace hc := tFF hc); clear hc | (have hp := hc; try simp only [decide_eq_true_eq, decide_eq_false_iff_not, bA, bB, bC, bD, bE, bF, bG, bH] at hp))))
    | (refine Kn.go hK ?_; clear hK K)
    | refine Kn.go (by assumption) ?_
    | (intro n hn; (try simp only [upd_none2, join_none_iff, ite_none, ne_eq] at hn); (try simp only [push_cast, seval, *]))
    | (intro hc)
    | fail)
  all_goals (refine ⟨_, _, Weak.less (by (simp only [push_cast, seval, *])), ?_, rfl⟩; first | (with_reducible rfl) | (simp [cmpI]; done) | (simp [*, cmpI]; done) | (congr 2; rw [Bool.eq_iff_iff]; simp [cmpI]; omega; done) | (congr 2; simp [cmpI]; omega; done) | (simp_all [cmpI]; done) | (split <;> simp_all [cmpI]; done) | (simp_all [cmpI] <;> omega))
def orS : List Int → Int
  | [] => 0
  | x :: l => if x = 0 then orS l else x
theorem or_p (l : List Int) (hl : l.length ≤ maxLen) : Pure Try.prog 57 [.l 1 (l.map i1)] (.c (.int .i64 (orS l))) := by
  intro H
  unfold maxLen at hl
  obtain ⟨R, hR⟩ : ∃ R, R = orS l := ⟨_, rfl⟩
  rw [← hR]
  replace hR := Lib.hid hR
  refine ACall_of' Try.func57 rfl (Ent_of Try.func57 (by kernel_rfl) rfl) (by simp [Try.ntmps57]) ?_; simp only [Try.ntmps57, Try.results57]
  repeat' (first
    | refine AW_seq_kn fun K hK => ?_
    | refine AW_block ?_
    | ((first
      | refine AW_region E0 ?_ | refine AW_ret ?_ | refine AW_exit ?_ | refine AW_skip ?_ | unfold retQ); try simp only [push_cast, seval, *])
    | (apply AW_cond; (case hc => (simp only [push_cast, seval]; rfl)); all_goals (intro hc; first | (exfalso; simp only [push_cast, seval, *] at hc; done) | (exact absurd hc (by decide)) | ((try first | rw [Bool.not_true] at hc | rw [Bool.not_false] at hc); first | (with_reducible replace hc := tTT hc); clear hc | (with_reducible replace hc := tFF hc); clear hc | (have hp := hc; try simp only [decide_eq_true_eq, decide_eq_false_iff_not, bA, bB, bC, bD, bE, bF, bG, bH] at hp))))
    | (refine Kn.go hK ?_; clear hK K)
    | refine Kn.go (by assumption) ?_
    | (intro n hn; (try simp only [upd_none2, join_none_iff, ite_none, ne_eq] at hn); (try simp only [push_cast, seval, *]))
    | (intro hc)
    | fail)
  refine AW_loopN l.length (fun k => R = orS (l.drop k)) (fun k => [(3, ci 0), (6, .l 1 (l.map i1)), (7, ci l.length), (8, ci k)]) (fun _ => H) (unhid hR) ?_ ?_ ?_ ?_
  · (first | trivial | (simp only [push_cast, seval, *]; done))
  · (first | trivial | ((simp only [push_cast, seval, *]); repeat' (first | rfl | exact Heap.le_refl _ | refine And.intro ?_ ?_)) | rfl | exact ⟨rfl, rfl⟩ | exact ⟨rfl, rfl, rfl⟩ | exact Heap.le_refl _)
  · intro k hk hinv
    have hx := List.getElem?_eq_getElem (l := l) hk; generalize l[k] = x at hx; have hxm := List.mem_of_getElem? hx; have hkl : (k : Int) < l.length := (by omega); have hkw : IntKind.i64.wrap ((k : Int) + 1) = (k : Int) + 1 := wrap_i64 (by omega) (by omega)
    have hi1 : i1 x = [.c (.int .i64 x)] := rfl
    rw [drop_get hx] at hinv
    simp only [orS] at hinv
    by_cases h0 : x = 0
    · rw [if_pos h0] at hinv
      replace hinv := Lib.hid hinv
      repeat' (first
    | refine AW_seq_kn fun K hK => ?_
    | refine AW_block ?_
    | ((first
      | refine AW_region E0 ?_ | refine AW_ret ?_ | refine AW_exit ?_ | refine AW_skip ?_ | unfold retQ); try simp only [push_cast, seval, *])
    | (apply AW_cond; (case hc => (simp only [push_cast, seval]; rfl)); all_goals (intro hc; first | (exfalso; simp only [push_cast, seval, *] at hc; done) | (exact absurd hc (by decide)) | ((try first | rw [Bool.not_true] at hc | rw [Bool.not_false] at hc); first | (with_reducible replace hc := tTT hc); clear hc | (with_reducible replace hc := tFF hc); clear hc | (have hp := hc; try simp only [decide_eq_true_eq, decide_eq_false_iff_not, bA, bB, bC, bD, bE, bF, bG, bH] at hp))))
    | (refine Kn.go hK ?_; clear hK K)
    | refine Kn.go (by assumption) ?_
    | (intro n hn; (try simp only [upd_none2, join_none_iff, ite_none, ne_eq] at hn); (try simp only [push_cast, seval, *]))
    | (intro hc)
    | fail)
      exact ⟨unhid hinv, by (first | trivial | (simp only [push_cast, seval, *]; done)), by (first | trivial | ((simp only [push_cast, seval, *]); repeat' (first | rfl | exact Heap.le_refl _ | refine And.intro ?_ ?_)) | rfl | exact ⟨rfl, rfl⟩ | exact ⟨rfl, rfl, rfl⟩ | exact Heap.le_refl _)⟩
    · rw [if_neg h0] at hinv
      subst hinv
      clear hR
      repeat' (first
    | refine AW_seq_kn fun K hK => ?_
    | refine AW_block ?_
    | ((first
      | refine AW_region E0 ?_ | refine AW_ret ?_ | refine AW_exit ?_ | refine AW_skip ?_ | unfold retQ); try simp only [push_cast, seval, *])
    | (apply AW_cond; (case hc => (simp only [push_cast, seval]; rfl)); all_goals (intro hc; first | (exfalso; simp only [push_cast, seval, *] at hc; done) | (exact absurd hc (by decide)) | ((try first | rw [Bool.not_true] at hc | rw [Bool.not_false] at hc); first | (with_reducible replace hc := tTT hc); clear hc | (with_reducible replace hc := tFF hc); clear hc | (have hp := hc; try simp only [decide_eq_true_eq, decide_eq_false_iff_not, bA, bB, bC, bD, bE, bF, bG, bH] at hp))))
    | (refine Kn.go hK ?_; clear hK K)
    | refine Kn.go (by assumption) ?_
    | (intro n hn; (try simp only [upd_none2, join_none_iff, ite_none, ne_eq] at hn); (try simp only [push_cast, seval, *]))
    | (intro hc)
    | fail)
      exact ⟨_, _, Weak.less (by (simp only [push_cast, seval, *])), rfl, rfl⟩
  · intro hinv
    rw [List.drop_length] at hinv
    simp only [orS] at hinv
    subst hinv
    clear hR
    repeat' (first
    | refine AW_seq_kn fun K hK => ?_
    | refine AW_block ?_
    | ((first
      | refine AW_region E0 ?_ | refine AW_ret ?_ | refine AW_exit ?_ | refine AW_skip ?_ | unfold retQ); try simp only [push_cast, seval, *])
    | (apply AW_cond; (case hc => (simp only [push_cast, seval]; rfl)); all_goals (intro hc; first | (exfalso; simp only [push_cast, seval, *] at hc; done) | (exact absurd hc (by decide)) | ((try first | rw [Bool.not_true] at hc | rw [Bool.not_false] at hc); first | (with_reducible replace hc := tTT hc); clear hc | (with_reducible replace hc := tFF hc); clear hc | (have hp := hc; try simp only [decide_eq_true_eq, decide_eq_false_iff_not, bA, bB, bC, bD, bE, bF, bG, bH] at hp))))
    | (refine Kn.go hK ?_; clear hK K)
    | refine Kn.go (by assumption) ?_
    | (intro n hn; (try simp only [upd_none2, join_none_iff, ite_none, ne_eq] at hn); (try simp only [push_cast, seval, *]))
    | (intro hc)
    | fail)
    exact ⟨_, _, Weak.less (by (simp only [push_cast, seval, *])), rfl, rfl⟩
def cmpR (a b : Rec) : Int := orS [cmpI a.s b.s, cmpI a.k b.k]
theorem compare_p (a b : Rec) : Pure Try.prog 112 [.g (Rec.av a), .g (Rec.av b)] (.c (.int .i64 (cmpR a b))) := by
  intro H
  have h1 := cmpI_p a.s b.s
  have h2 := cmpI_p a.k b.k
  have h3 := or_p [cmpI a.s b.s, cmpI a.k b.k] (by simp [maxLen])
  unfold cmpR
  generalize orS [cmpI a.s b.s, cmpI a.k b.k] = R at *
  generalize cmpI a.s b.s = c1 at *
  generalize cmpI a.k b.k = c2 at *
  obtain ⟨s, k, v⟩ := a
  obtain ⟨s2, k2, v2⟩ := b
  simp only [List.map_cons, List.map_nil, i1] at h1 h2 h3
  simp only [Rec.av]
  replace h3 := Lib.hid h3
  refine ACall_of' Try.func112 rfl (Ent_of Try.func112 (by kernel_rfl) rfl) (by simp [Try.ntmps112]) ?_; simp only [Try.ntmps112, Try.results112]
  repeat' (first
    | refine AW_seq_kn fun K hK => ?_
    | refine AW_block ?_
    | (refine does_call rfl rfl ?_; simp only [push_cast, seval, *]; refine ACall.monoP (h1 _) ?_; (try simp only [push_cast, seval, *]))
    | (refine does_call rfl rfl ?_; simp only [push_cast, seval, *]; refine ACall.monoP (h2 _) ?_; (try simp only [push_cast, seval, *]))
    | ((first
      | refine AW_region_draw (id := 1) E0 (fun f => [].contains f) dLA0 dAA0 mixed (by kernel_rfl) ?_
      | refine AW_region E0 ?_ | refine AW_ret ?_ | refine AW_exit ?_ | refine AW_skip ?_ | unfold retQ); try simp only [push_cast, seval, *])
    | (apply AW_cond; (case hc => (simp only [push_cast, seval]; rfl)); all_goals (intro hc; first | (exfalso; simp only [push_cast, seval, *] at hc; done) | (exact absurd hc (by decide)) | ((try first | rw [Bool.not_true] at hc | rw [Bool.not_false] at hc); first | (with_reducible replace hc := tTT hc); clear hc | (with_reducible replace hc := tFF hc); clear hc | (have hp := hc; try simp only [decide_eq_true_eq, decide_eq_false_iff_not, bA, bB, bC, bD, bE, bF, bG, bH] at hp))))
    | (refine Kn.go hK ?_; clear hK K)
    | refine Kn.go (by assumption) ?_
    | (intro n hn; (try simp only [upd_none2, join_none_iff, ite_none, ne_eq] at hn); (try simp only [push_cast, seval, *]))
    | (intro hc)
    | fail)
  refine does_call rfl rfl ?_
  simp only [push_cast, seval, *]
  refine ACall.mono (ACall.lend (args' := [.l 1 [[.c (.int .i64 c1)], [.c (.int .i64 c2)]]]) (Flat.c _) (show Lent _ _ _ ∧ True from ⟨Lent.s (rows := [[.c (.int .i64 c1)], [.c (.int .i64 c2)]]) (by simp only [push_cast, seval, *]; rfl), trivial⟩) (unhid h3).cl) ?_
  rintro _ _ ⟨rfl, e2⟩
  have e3 := e2.symm; clear e2; subst e3
  (try simp only [push_cast, seval, *])
  repeat' (first
    | refine AW_seq_kn fun K hK => ?_
    | refine AW_block ?_
    | ((first
      | refine AW_region_draw (id := 1) E0 (fun f => [].contains f) dLA0 dAA0 mixed (by kernel_rfl) ?_
      | refine AW_region E0 ?_ | refine AW_ret ?_ | refine AW_exit ?_ | refine AW_skip ?_ | unfold retQ); try simp only [push_cast, seval, *])
    | (apply AW_cond; (case hc => (simp only [push_cast, seval]; rfl)); all_goals (intro hc; first | (exfalso; simp only [push_cast, seval, *] at hc; done) | (exact absurd hc (by decide)) | ((try first | rw [Bool.not_true] at hc | rw [Bool.not_false] at hc); first | (with_reducible replace hc := tTT hc); clear hc | (with_reducible replace hc := tFF hc); clear hc | (have hp := hc; try simp only [decide_eq_true_eq, decide_eq_false_iff_not, bA, bB, bC, bD, bE, bF, bG, bH] at hp))))
    | (refine Kn.go hK ?_; clear hK K)
    | refine Kn.go (by assumption) ?_
    | (intro n hn; (try simp only [upd_none2, join_none_iff, ite_none, ne_eq] at hn); (try simp only [push_cast, seval, *]))
    | (intro hc)
    | fail)
  exact ⟨_, _, Weak.less (by (simp only [push_cast, seval, *])), rfl, rfl⟩

theorem sameKey_p (a b : Rec) : Pure Try.prog 80 [.g (Rec.av a), .g (Rec.av b)] (.c (.bool (decide (cmpR a b = 0)))) := by
  intro H
  have hc := compare_p a b
  generalize cmpR a b = R at *
  obtain ⟨s, k, v⟩ := a
  obtain ⟨s2, k2, v2⟩ := b
  simp only [Rec.av] at hc ⊢
  refine ACall_of' Try.func80 rfl (Ent_of Try.func80 (by kernel_rfl) rfl) (by simp [Try.ntmps80]) ?_; simp only [Try.ntmps80, Try.results80]
  repeat' (first
    | refine AW_seq_kn fun K hK => ?_
    | refine AW_block ?_
    | (refine does_call rfl rfl ?_; simp only [push_cast, seval, *]; refine ACall.monoP (hc _) ?_; (try simp only [push_cast, seval, *]))
    | (refine does_call rfl rfl ?_; simp only [push_cast, seval, *]; refine ACall.monoP (compare_p ⟨_, _, _⟩ ⟨_, _, _⟩ _) ?_; (try simp only [push_cast, seval, *]))
    | ((first
      | refine AW_region E0 ?_ | refine AW_ret ?_ | refine AW_exit ?_ | refine AW_skip ?_ | unfold retQ); try simp only [push_cast, seval, *])
    | (apply AW_cond; (case hc => (simp only [push_cast, seval]; rfl)); all_goals (intro hc; first | (exfalso; simp only [push_cast, seval, *] at hc; done) | (exact absurd hc (by decide)) | ((try first | rw [Bool.not_true] at hc | rw [Bool.not_false] at hc); first | (with_reducible replace hc := tTT hc); clear hc | (with_reducible replace hc := tFF hc); clear hc | (have hp := hc; try simp only [decide_eq_true_eq, decide_eq_false_iff_not, bA, bB, bC, bD, bE, bF, bG, bH] at hp))))
    | (refine Kn.go hK ?_; clear hK K)
    | refine Kn.go (by assumption) ?_
    | (intro n hn; (try simp only [upd_none2, join_none_iff, ite_none, ne_eq] at hn); (try simp only [push_cast, seval, *]))
    | (intro hc)
    | fail)
  exact ⟨_, _, Weak.less (by (simp only [push_cast, seval, *])), rfl, rfl⟩

def cmpN (a b : Nm) : Int := orS [cmpI a.s b.s, cmpI a.a b.a, cmpI a.n b.n]
theorem Compare_p (a b : Nm) : Pure Try.prog 18 [.g (Nm.av a), .g (Nm.av b)] (.c (.int .i64 (cmpN a b))) := by
  intro H
  have h1 := cmpI_p a.s b.s
  have h2 := cmpI_p a.a b.a
  have h4 := cmpI_p a.n b.n
  have h3 := or_p [cmpI a.s b.s, cmpI a.a b.a, cmpI a.n b.n] (by simp [maxLen])
  unfold cmpN
  generalize orS [cmpI a.s b.s, cmpI a.a b.a, cmpI a.n b.n] = R at *
  generalize cmpI a.s b.s = c1 at *
  generalize cmpI a.a b.a = c2 at *
  generalize cmpI a.n b.n = c3 at *
  obtain ⟨s, k, v⟩ := a
  obtain ⟨s2, k2, v2⟩ := b
  simp only [List.map_cons, List.map_nil, i1] at h1 h2 h3 h4
  simp only [Nm.av]
  replace h3 := Lib.hid h3
  refine ACall_of' Try.func18 rfl (Ent_of Try.func18 (by kernel_rfl) rfl) (by simp [Try.ntmps18]) ?_; simp only [Try.ntmps18, Try.results18]
  repeat' (first
    | refine AW_seq_kn fun K hK => ?_
    | refine AW_block ?_
    | (refine does_call rfl rfl ?_; simp only [push_cast, seval, *]; refine ACall.monoP (h1 _) ?_; (try simp only [push_cast, seval, *]))
    | (refine does_call rfl rfl ?_; simp only [push_cast, seval, *]; refine ACall.monoP (h2 _) ?_; (try simp only [push_cast, seval, *]))
    | (refine does_call rfl rfl ?_; simp only [push_cast, seval, *]; refine ACall.monoP (h4 _) ?_; (try simp only [push_cast, seval, *]))
    | ((first
      | refine AW_region_draw (id := 1) E0 (fun f => [].contains f) dLA1 dAA1 mixed (by kernel_rfl) ?_
      | refine AW_region E0 ?_ | refine AW_ret ?_ | refine AW_exit ?_ | refine AW_skip ?_ | unfold retQ); try simp only [push_cast, seval, *])
    | (apply AW_cond; (case hc => (simp only [push_cast, seval]; rfl)); all_goals (intro hc; first | (exfalso; simp only [push_cast, seval, *] at hc; done) | (exact absurd hc (by decide)) | ((try first | rw [Bool.not_true] at hc | rw [Bool.not_false] at hc); first | (with_reducible replace hc := tTT hc); clear hc | (with_reducible replace hc := tFF hc); clear hc | (have hp := hc; try simp only [decide_eq_true_eq, decide_eq_false_iff_not, bA, bB, bC, bD, bE, bF, bG, bH] at hp))))
    | (refine Kn.go hK ?_; clear hK K)
    | refine Kn.go (by assumption) ?_
    | (intro n hn; (try simp only [upd_none2, join_none_iff, ite_none, ne_eq] at hn); (try simp only [push_cast, seval, *]))
    | (intro hc)
    | fail)
  refine does_call rfl rfl ?_
  simp only [push_cast, seval, *]
  refine ACall.mono (ACall.lend (args' := [.l 1 [[.c (.int .i64 c1)], [.c (.int .i64 c2)], [.c (.int .i64 c3)]]]) (Flat.c _) (show Lent _ _ _ ∧ True from ⟨Lent.s (rows := [[.c (.int .i64 c1)], [.c (.int .i64 c2)], [.c (.int .i64 c3)]]) (by simp only [push_cast, seval, *]; rfl), trivial⟩) (unhid h3).cl) ?_
  rintro _ _ ⟨rfl, e2⟩
  have e3 := e2.symm; clear e2; subst e3
  (try simp only [push_cast, seval, *])
  repeat' (first
    | refine AW_seq_kn fun K hK => ?_
    | refine AW_block ?_
    | ((first
      | refine AW_region_draw (id := 1) E0 (fun f => [].contains f) dLA1 dAA1 mixed (by kernel_rfl) ?_
      | refine AW_region E0 ?_ | refine AW_ret ?_ | refine AW_exit ?_ | refine AW_skip ?_ | unfold retQ); try simp only [push_cast, seval, *])
    | (apply AW_cond; (case hc => (simp only [push_cast, seval]; rfl)); all_goals (intro hc; first | (exfalso; simp only [push_cast, seval, *] at hc; done) | (exact absurd hc (by decide)) | ((try first | rw [Bool.not_true] at hc | rw [Bool.not_false] at hc); first | (with_reducible replace hc := tTT hc); clear hc | (with_reducible replace hc := tFF hc); clear hc | (have hp := hc; try simp only [decide_eq_true_eq, decide_eq_false_iff_not, bA, bB, bC, bD, bE, bF, bG, bH] at hp))))
    | (refine Kn.go hK ?_; clear hK K)
    | refine Kn.go (by assumption) ?_
    | (intro n hn; (try simp only [upd_none2, join_none_iff, ite_none, ne_eq] at hn); (try simp only [push_cast, seval, *]))
    | (intro hc)
    | fail)
  exact ⟨_, _, Weak.less (by (simp only [push_cast, seval, *])), rfl, rfl⟩

theorem cmpN_neg {a b : Nm} : cmpN a b < 0 ↔ (a.s < b.s ∨ (a.s = b.s ∧ (a.a < b.a ∨ (a.a = b.a ∧ a.n < b.n)))) := by
  unfold cmpN orS cmpI orS orS orS
  repeat' split
  all_goals omega
theorem cmpN_zero {a b : Nm} : cmpN a b = 0 ↔ a = b := by
  obtain ⟨s, k, v⟩ := a
  obtain ⟨s2, k2, v2⟩ := b
  simp only [Nm.mk.injEq]
  unfold cmpN orS cmpI orS orS orS
  dsimp only
  repeat' split
  all_goals omega
def ltN (a b : Nm) : Bool := decide (a.s < b.s ∨ (a.s = b.s ∧ (a.a < b.a ∨ (a.a = b.a ∧ a.n < b.n))))
def nmOk (x : Nm) : Bool := decide (0 ≤ x.s) && decide (x.s < 16) && (decide (1 ≤ x.a) && decide (x.a ≤ 1048576)) && (decide (1 ≤ x.n) && decide (x.n ≤ 1048576))
theorem counted_p (k : Int) : Pure Try.prog 56 [.c (.int .i64 k)] (.c (.bool (decide (1 ≤ k) && decide (k ≤ 1048576)))) := by
  intro H
  refine ACall_of' Try.func56 rfl (Ent_of Try.func56 (by kernel_rfl) rfl) (by simp [Try.ntmps56]) ?_; simp only [Try.ntmps56, Try.results56]
  repeat' (first
    | refine AW_seq_kn fun K hK => ?_
    | refine AW_block ?_
    | ((first
      | refine AW_region E0 ?_ | refine AW_ret ?_ | refine AW_exit ?_ | refine AW_skip ?_ | unfold retQ); try simp only [push_cast, seval, *])
    | ((first | (apply AW_cond; (case hc => (simp only [push_cast, seval]; rfl))) | (apply ER_guard; (case hb => (simp only [push_cast, seval]; rfl)))); all_goals ((intro hc; first | (exfalso; simp only [push_cast, seval, *] at hc; done) | (exact absurd hc (by decide)) | ((try first | rw [Bool.not_true] at hc | rw [Bool.not_false] at hc); first | (with_reducible replace hc := tTT hc); clear hc | (with_reducible replace hc := tFF hc); clear hc | (have hp := hc; try simp only [decide_eq_true_eq, decide_eq_false_iff_not, bA, bB, bC, bD, bE, bF, bG, bH] at hp))) <;> try simp only [push_cast, seval, *]))
    | (refine Kn.go hK ?_; clear hK K)
    | refine Kn.go (by assumption) ?_
    | (intro n hn; (try simp only [upd_none2, join_none_iff, ite_none, ne_eq] at hn); (try simp only [push_cast, seval, *]))
    | (intro hc)
    | (apply ER_blk; (case hp => rfl); (case hb => (simp only [push_cast, seval]; rfl)); (case hd => (simp only [push_cast, seval]; done)); (case h => (intro hc; simp only [push_cast, seval, *]; rfl)); simp only [push_cast, seval, *])
    | fail)
  all_goals (refine ⟨_, _, Weak.less (by (simp only [push_cast, seval, *])), ?_, rfl⟩; first | (with_reducible rfl) | (simp [decide_eq_true_eq]; done) | (simp [*, decide_eq_true_eq]; done) | (congr 2; rw [Bool.eq_iff_iff]; simp [decide_eq_true_eq]; omega; done) | (congr 2; simp [decide_eq_true_eq]; omega; done) | (simp_all [decide_eq_true_eq]; done) | (split <;> simp_all [decide_eq_true_eq]; done) | (simp_all [decide_eq_true_eq] <;> omega))
end Go.Proofs.Ytdeckjoeggmagaa
