/- Walks: the values of a key. -/
import Derived.Test.YtfdedgeljijfdaaB
import Derived.Test.YtfdedgeljijfdaaUD
namespace Go.Proofs.Ytfdedgeljijfdaa
open Go.RowKit
open Nat renaming reduceEqDiff → nA, reduceLT → nB, reduceLeDiff → nC, reduceAdd → nD, reduceMul → nE, reduceSub → nF, reduceBEq → nG
open Int renaming reduceToNat → iA, reduceLT → iB, reduceLE → iC, reduceEq → iD
open Bool renaming and_eq_true → bA, or_eq_true → bB, or_eq_false_iff → bC, and_eq_false_iff → bD, not_eq_true' → bE, not_eq_false' → bF, not_true → bG, not_false → bH
set_option linter.all false
set_option maxHeartbeats 4000000
attribute [local irreducible] AW Does ACall tE tS tB tZ

def hit (key : Rec) (x : El) : Bool := decide (x.kind = 1) && decide (x.s = key.s ∧ x.k = key.k)
def ofS (l : List El) (key : Rec) : List Int := (l.filter (hit key)).map El.v
theorem ofS_snoc (l : List El) (key : Rec) (x : El) : ofS (l ++ [x]) key = if hit key x = true then ofS l key ++ [x.v] else ofS l key := by
  unfold ofS
  rw [List.filter_append, List.filter_cons]
  split <;> simp
theorem ofS_len (l : List El) (key : Rec) : (ofS l key).length ≤ l.length := by
  unfold ofS; rw [List.length_map]; exact List.length_filter_le _ _
theorem hit_cmp (key : Rec) (x : El) : hit key x = (decide (x.kind = 1) && decide (cmpR ⟨x.s, x.k, x.v⟩ key = 0)) := by
  unfold hit
  congr 1
  rw [decide_eq_decide, cmpR_zero]
theorem Of_o (l : List El) (hl : l.length ≤ 1000000) (key : Rec) (H : Heap) :
    ACall Try.prog 22 [.l 5 (l.map El.av), .g (Rec.av key)] H fun r H' => OwnL H' r 2 1 ((ofS l key).map i1) H := by
  obtain ⟨ks, kk, kv⟩ := key
  have hkav : Rec.av ⟨ks, kk, kv⟩ = [.c (.int .i64 ks), .c (.int .i64 kk), .c (.int .i64 kv)] := rfl
  rw [hkav]
  clear hkav
  refine ACall_of' Try.func22 rfl (Ent_of Try.func22 (by kernel_rfl) rfl) (by simp [Try.ntmps22]) ?_; simp only [Try.ntmps22, Try.results22]
  repeat' (first
    | refine AW_seq_kn fun K hK => ?_
    | refine AW_block ?_
    | (refine does_call rfl rfl ?_; simp only [push_cast, seval, *]; refine ACall.monoP (sameKey_p ⟨_, _, _⟩ ⟨_, _, _⟩ _) ?_; (try simp only [push_cast, seval, *]))
    | ((first
      | refine AW_region E0 ?_ | refine AW_ret ?_ | refine AW_exit ?_ | refine AW_skip ?_ | unfold retQ); try simp only [push_cast, seval, *])
    | ((first | (apply AW_cond; (case hc => (simp only [push_cast, seval]; rfl))) | (apply ER_guard; (case hb => (simp only [push_cast, seval]; rfl)))); all_goals ((intro hc; first | (exfalso; simp only [push_cast, seval, *] at hc; done) | (exact absurd hc (by decide)) | ((try first | rw [Bool.not_true] at hc | rw [Bool.not_false] at hc); first | (with_reducible replace hc := tTT hc); clear hc | (with_reducible replace hc := tFF hc); clear hc | (have hp := hc; try simp only [decide_eq_true_eq, decide_eq_false_iff_not, bA, bB, bC, bD, bE, bF, bG, bH] at hp))) <;> try simp only [push_cast, seval, *]))
    | (refine Kn.go hK ?_; clear hK K)
    | refine Kn.go (by assumption) ?_
    | (intro n hn; (try simp only [upd_none2, join_none_iff, ite_none, ne_eq] at hn); (try simp only [push_cast, seval, *]))
    | (intro hc)
    | (apply ER_blk; (case hp => rfl); (case hb => (simp only [push_cast, seval]; rfl)); (case hd => (simp only [push_cast, seval]; done)); (case h => (intro hc; simp only [push_cast, seval, *]; rfl)); simp only [push_cast, seval, *])
    | fail)
  generalize n = nk at *
  have hnk := hn
  clear hn
  refine AW_loopX (σ := AV × Heap) l.length (fun k w => OwnL w.2 w.1 2 1 ((ofS (l.take k) ⟨ks, kk, kv⟩).map i1) (upd H nk (.r 34 3 1 [[.c (.int .i64 ks), .c (.int .i64 kk), .c (.int .i64 kv)]]))) (fun k w => [(3, .p nk 3 0 0), (5, w.1), (8, .l 5 (l.map El.av)), (9, ci l.length), (10, ci k)]) (fun _ w => w.2) (.c (.slice none 0 0), upd H nk (.r 34 3 1 [[.c (.int .i64 ks), .c (.int .i64 kk), .c (.int .i64 kv)]])) (OwnL.nil _ _ _) ?_ ?_ ?_ ?_
  · (first | trivial | (simp only [push_cast, seval, *]; done))
  · exact Heap.le_refl _
  · rintro k ⟨v, B⟩ hk hown
    simp only at hown
    have hx := List.getElem?_eq_getElem (l := l) hk; generalize l[k] = x at hx; have hxm := List.mem_of_getElem? hx; have hkl : (k : Int) < l.length := (by omega); have hkw : IntKind.i64.wrap ((k : Int) + 1) = (k : Int) + 1 := wrap_i64 (by omega) (by omega)
    have hcs := hown.cs
    have hBk : B nk = some (.r 34 3 1 [[.c (.int .i64 ks), .c (.int .i64 kk), .c (.int .i64 kv)]]) := hown.get (upd_same _ _ _)
    have hno := ne_old hBk
    have hrow : (ofS (l.take k) ⟨ks, kk, kv⟩).length ≤ 1000000 := by
      have := ofS_len (l.take k) ⟨ks, kk, kv⟩
      rw [List.length_take] at this; omega
    rw [take_snoc hx, ofS_snoc, hit_cmp]
    generalize ofS (l.take k) ⟨ks, kk, kv⟩ = O at *
    obtain ⟨kd, s, k2, vv, nm⟩ := x
    have hsk := sameKey_p ⟨s, k2, vv⟩ ⟨ks, kk, kv⟩
    simp only
    generalize cmpR ⟨s, k2, vv⟩ ⟨ks, kk, kv⟩ = R at *
    have hav : El.av ⟨kd, s, k2, vv, nm⟩ = [.c (.int .i64 kd), .c (.int .i64 s), .c (.int .i64 k2), .c (.int .i64 vv), .c (.int .u64 nm)] := rfl
    simp only [Rec.av] at hsk
    replace hown := Lib.hid hown
    clear hxm
    by_cases hk1 : kd = 1
    · by_cases hR : R = 0
      · rw [if_pos (by simp [hk1, hR])]
        subst hk1
        subst hR
        repeat' (first
    | refine AW_seq_kn fun K hK => ?_
    | refine AW_block ?_
    | (refine does_call rfl rfl ?_; simp only [push_cast, seval, *]; refine ACall.monoP (hsk _) ?_; (try simp only [push_cast, seval, *]))
    | (refine does_call rfl rfl ?_; simp only [push_cast, seval, *]; refine ACall.monoP (sameKey_p ⟨_, _, _⟩ ⟨_, _, _⟩ _) ?_; (try simp only [push_cast, seval, *]))
    | ((first
      | refine AW_region E0 ?_ | refine AW_ret ?_ | refine AW_exit ?_ | refine AW_skip ?_ | unfold retQ); try simp only [push_cast, seval, *])
    | ((first | (apply AW_cond; (case hc => (simp only [push_cast, seval]; rfl))) | (apply ER_guard; (case hb => (simp only [push_cast, seval]; rfl)))); all_goals ((intro hc; first | (exfalso; simp only [push_cast, seval, *] at hc; done) | (exact absurd hc (by decide)) | ((try first | rw [Bool.not_true] at hc | rw [Bool.not_false] at hc); first | (with_reducible replace hc := tTT hc); clear hc | (with_reducible replace hc := tFF hc); clear hc | (have hp := hc; try simp only [decide_eq_true_eq, decide_eq_false_iff_not, bA, bB, bC, bD, bE, bF, bG, bH] at hp))) <;> try simp only [push_cast, seval, *]))
    | (refine Kn.go hK ?_; clear hK K)
    | refine Kn.go (by assumption) ?_
    | (intro n hn; (try simp only [upd_none2, join_none_iff, ite_none, ne_eq] at hn); (try simp only [push_cast, seval, *]))
    | (intro hc)
    | (apply ER_blk; (case hp => rfl); (case hb => (simp only [push_cast, seval]; rfl)); (case hd => (simp only [push_cast, seval]; done)); (case h => (intro hc; simp only [push_cast, seval, *]; rfl)); simp only [push_cast, seval, *])
    | fail)
        rename_i n1 h1
        have hn2 := hn.2
        have hn1n : ¬ n = n1 := hn.1.1
        have hown2 := (unhid hown).new h1 (.r 37 5 1 [[.c (.int .i64 1), .c (.int .i64 s), .c (.int .i64 k2), .c (.int .i64 vv), .c (.int .u64 nm)]])
        have hH1 := (unhid hown).none h1
        refine does_append1 hown2 rfl rfl rfl (by rw [upd_ne hn1n]; exact hn2) tE47 tS2 tB2 tZ2 rfl (by decide) ?_ ?_ ?_
        · simp only [List.length_map, maxLen]; omega
        · simp only [List.length_map]; omega
        intro x1 B1 hown3
        have hcs1 := hown3.cs
        obtain ⟨B3, hle2, hown5⟩ := OwnL.cut hown3 (Heap.le_new (Heap.le_refl _) hH1)
        replace hown5 := Lib.hid hown5
        clear hown3 hown2 hown
        (try simp only [push_cast, seval, *])
        repeat' (first
    | refine AW_seq_kn fun K hK => ?_
    | refine AW_block ?_
    | (refine does_call rfl rfl ?_; simp only [push_cast, seval, *]; refine ACall.monoP (sameKey_p ⟨_, _, _⟩ ⟨_, _, _⟩ _) ?_; (try simp only [push_cast, seval, *]))
    | ((first
      | refine AW_region E0 ?_ | refine AW_ret ?_ | refine AW_exit ?_ | refine AW_skip ?_ | unfold retQ); try simp only [push_cast, seval, *])
    | ((first | (apply AW_cond; (case hc => (simp only [push_cast, seval]; rfl))) | (apply ER_guard; (case hb => (simp only [push_cast, seval]; rfl)))); all_goals ((intro hc; first | (exfalso; simp only [push_cast, seval, *] at hc; done) | (exact absurd hc (by decide)) | ((try first | rw [Bool.not_true] at hc | rw [Bool.not_false] at hc); first | (with_reducible replace hc := tTT hc); clear hc | (with_reducible replace hc := tFF hc); clear hc | (have hp := hc; try simp only [decide_eq_true_eq, decide_eq_false_iff_not, bA, bB, bC, bD, bE, bF, bG, bH] at hp))) <;> try simp only [push_cast, seval, *]))
    | (refine Kn.go hK ?_; clear hK K)
    | refine Kn.go (by assumption) ?_
    | (intro n hn; (try simp only [upd_none2, join_none_iff, ite_none, ne_eq] at hn); (try simp only [push_cast, seval, *]))
    | (intro hc)
    | (apply ER_blk; (case hp => rfl); (case hb => (simp only [push_cast, seval]; rfl)); (case hd => (simp only [push_cast, seval]; done)); (case h => (intro hc; simp only [push_cast, seval, *]; rfl)); simp only [push_cast, seval, *])
    | fail)
        refine ⟨(x1, B3), ?_, by (first | trivial | (simp only [push_cast, seval, *]; done)), hle2⟩
        have h := unhid hown5
        rw [List.map_append]
        exact h
      · rw [if_neg (by simp [hR])]
        repeat' (first
    | refine AW_seq_kn fun K hK => ?_
    | refine AW_block ?_
    | (refine does_call rfl rfl ?_; simp only [push_cast, seval, *]; refine ACall.monoP (hsk _) ?_; (try simp only [push_cast, seval, *]))
    | (refine does_call rfl rfl ?_; simp only [push_cast, seval, *]; refine ACall.monoP (sameKey_p ⟨_, _, _⟩ ⟨_, _, _⟩ _) ?_; (try simp only [push_cast, seval, *]))
    | ((first
      | refine AW_region E0 ?_ | refine AW_ret ?_ | refine AW_exit ?_ | refine AW_skip ?_ | unfold retQ); try simp only [push_cast, seval, *])
    | ((first | (apply AW_cond; (case hc => (simp only [push_cast, seval]; rfl))) | (apply ER_guard; (case hb => (simp only [push_cast, seval]; rfl)))); all_goals ((intro hc; first | (exfalso; simp only [push_cast, seval, *] at hc; done) | (exact absurd hc (by decide)) | ((try first | rw [Bool.not_true] at hc | rw [Bool.not_false] at hc); first | (with_reducible replace hc := tTT hc); clear hc | (with_reducible replace hc := tFF hc); clear hc | (have hp := hc; try simp only [decide_eq_true_eq, decide_eq_false_iff_not, bA, bB, bC, bD, bE, bF, bG, bH] at hp))) <;> try simp only [push_cast, seval, *]))
    | (refine Kn.go hK ?_; clear hK K)
    | refine Kn.go (by assumption) ?_
    | (intro n hn; (try simp only [upd_none2, join_none_iff, ite_none, ne_eq] at hn); (try simp only [push_cast, seval, *]))
    | (intro hc)
    | (apply ER_blk; (case hp => rfl); (case hb => (simp only [push_cast, seval]; rfl)); (case hd => (simp only [push_cast, seval]; done)); (case h => (intro hc; simp only [push_cast, seval, *]; rfl)); simp only [push_cast, seval, *])
    | fail)
        exact ⟨(v, B), unhid hown, by (first | trivial | (simp only [push_cast, seval, *]; done)), by (repeat' (first | exact Heap.le_refl _ | refine hle_upd2 ?_ _ _ | (refine Heap.le_new ?_ ?_; rotate_left 1; focus (first | assumption | (simp only [upd_none2, upd_get, ne_eq, push_cast, seval, *]; done) | (simp [upd_get, *]; done)))))⟩
    · rw [if_neg (by simp [hk1])]
      repeat' (first
    | refine AW_seq_kn fun K hK => ?_
    | refine AW_block ?_
    | (refine does_call rfl rfl ?_; simp only [push_cast, seval, *]; refine ACall.monoP (sameKey_p ⟨_, _, _⟩ ⟨_, _, _⟩ _) ?_; (try simp only [push_cast, seval, *]))
    | ((first
      | refine AW_region E0 ?_ | refine AW_ret ?_ | refine AW_exit ?_ | refine AW_skip ?_ | unfold retQ); try simp only [push_cast, seval, *])
    | ((first | (apply AW_cond; (case hc => (simp only [push_cast, seval]; rfl))) | (apply ER_guard; (case hb => (simp only [push_cast, seval]; rfl)))); all_goals ((intro hc; first | (exfalso; simp only [push_cast, seval, *] at hc; done) | (exact absurd hc (by decide)) | ((try first | rw [Bool.not_true] at hc | rw [Bool.not_false] at hc); first | (with_reducible replace hc := tTT hc); clear hc | (with_reducible replace hc := tFF hc); clear hc | (have hp := hc; try simp only [decide_eq_true_eq, decide_eq_false_iff_not, bA, bB, bC, bD, bE, bF, bG, bH] at hp))) <;> try simp only [push_cast, seval, *]))
    | (refine Kn.go hK ?_; clear hK K)
    | refine Kn.go (by assumption) ?_
    | (intro n hn; (try simp only [upd_none2, join_none_iff, ite_none, ne_eq] at hn); (try simp only [push_cast, seval, *]))
    | (intro hc)
    | (apply ER_blk; (case hp => rfl); (case hb => (simp only [push_cast, seval]; rfl)); (case hd => (simp only [push_cast, seval]; done)); (case h => (intro hc; simp only [push_cast, seval, *]; rfl)); simp only [push_cast, seval, *])
    | fail)
      exact ⟨(v, B), unhid hown, by (first | trivial | (simp only [push_cast, seval, *]; done)), by (repeat' (first | exact Heap.le_refl _ | refine hle_upd2 ?_ _ _ | (refine Heap.le_new ?_ ?_; rotate_left 1; focus (first | assumption | (simp only [upd_none2, upd_get, ne_eq, push_cast, seval, *]; done) | (simp [upd_get, *]; done)))))⟩
  · rintro ⟨v, B⟩ hown
    simp only at hown
    rw [List.take_length] at hown
    have hcs := hown.cs
    replace hown := Lib.hid hown
    repeat' (first
    | refine AW_seq_kn fun K hK => ?_
    | refine AW_block ?_
    | (refine does_call rfl rfl ?_; simp only [push_cast, seval, *]; refine ACall.monoP (sameKey_p ⟨_, _, _⟩ ⟨_, _, _⟩ _) ?_; (try simp only [push_cast, seval, *]))
    | ((first
      | refine AW_region E0 ?_ | refine AW_ret ?_ | refine AW_exit ?_ | refine AW_skip ?_ | unfold retQ); try simp only [push_cast, seval, *])
    | ((first | (apply AW_cond; (case hc => (simp only [push_cast, seval]; rfl))) | (apply ER_guard; (case hb => (simp only [push_cast, seval]; rfl)))); all_goals ((intro hc; first | (exfalso; simp only [push_cast, seval, *] at hc; done) | (exact absurd hc (by decide)) | ((try first | rw [Bool.not_true] at hc | rw [Bool.not_false] at hc); first | (with_reducible replace hc := tTT hc); clear hc | (with_reducible replace hc := tFF hc); clear hc | (have hp := hc; try simp only [decide_eq_true_eq, decide_eq_false_iff_not, bA, bB, bC, bD, bE, bF, bG, bH] at hp))) <;> try simp only [push_cast, seval, *]))
    | (refine Kn.go hK ?_; clear hK K)
    | refine Kn.go (by assumption) ?_
    | (intro n hn; (try simp only [upd_none2, join_none_iff, ite_none, ne_eq] at hn); (try simp only [push_cast, seval, *]))
    | (intro hc)
    | (apply ER_blk; (case hp => rfl); (case hb => (simp only [push_cast, seval]; rfl)); (case hd => (simp only [push_cast, seval]; done)); (case h => (intro hc; simp only [push_cast, seval, *]; rfl)); simp only [push_cast, seval, *])
    | fail)
    obtain ⟨B3, hle2, hown5⟩ := OwnL.cut (unhid hown) (Heap.le_new (Heap.le_refl H) hnk)
    exact ⟨_, _, Weak.less hle2, hown5⟩
theorem refOf_o (l : List El) (hl : l.length ≤ 1000000) (key : Rec) (H : Heap) :
    ACall Try.prog 23 [.l 5 (l.map El.av), .g (Rec.av key)] H fun r H' => OwnL H' r 2 1 ((ofS l key).map i1) H := by
  obtain ⟨ks, kk, kv⟩ := key
  have hkav : Rec.av ⟨ks, kk, kv⟩ = [.c (.int .i64 ks), .c (.int .i64 kk), .c (.int .i64 kv)] := rfl
  rw [hkav]
  clear hkav
  refine ACall_of' Try.func23 rfl (Ent_of Try.func23 (by kernel_rfl) rfl) (by simp [Try.ntmps23]) ?_; simp only [Try.ntmps23, Try.results23]
  repeat' (first
    | refine AW_seq_kn fun K hK => ?_
    | refine AW_block ?_
    | ((first
      | refine AW_region E0 ?_ | refine AW_ret ?_ | refine AW_exit ?_ | refine AW_skip ?_ | unfold retQ); try simp only [push_cast, seval, *])
    | ((first | (apply AW_cond; (case hc => (simp only [push_cast, seval]; rfl))) | (apply ER_guard; (case hb => (simp only [push_cast, seval]; rfl)))); all_goals ((intro hc; first | (exfalso; simp only [push_cast, seval, *] at hc; done) | (exact absurd hc (by decide)) | ((try first | rw [Bool.not_true] at hc | rw [Bool.not_false] at hc); first | (with_reducible replace hc := tTT hc); clear hc | (with_reducible replace hc := tFF hc); clear hc | (have hp := hc; try simp only [decide_eq_true_eq, decide_eq_false_iff_not, bA, bB, bC, bD, bE, bF, bG, bH] at hp))) <;> try simp only [push_cast, seval, *]))
    | (refine Kn.go hK ?_; clear hK K)
    | refine Kn.go (by assumption) ?_
    | (intro n hn; (try simp only [upd_none2, join_none_iff, ite_none, ne_eq] at hn); (try simp only [push_cast, seval, *]))
    | (intro hc)
    | (apply ER_blk; (case hp => rfl); (case hb => (simp only [push_cast, seval]; rfl)); (case hd => (simp only [push_cast, seval]; done)); (case h => (intro hc; simp only [push_cast, seval, *]; rfl)); simp only [push_cast, seval, *])
    | fail)
  generalize n = nk at *
  have hnk := hn
  clear hn
  refine AW_loopX (σ := AV × Heap) l.length (fun k w => OwnL w.2 w.1 2 1 ((ofS (l.take k) ⟨ks, kk, kv⟩).map i1) (upd H nk (.r 34 3 1 [[.c (.int .i64 ks), .c (.int .i64 kk), .c (.int .i64 kv)]]))) (fun k w => [(0, .l 5 (l.map El.av)), (3, .p nk 3 0 0), (5, w.1), (6, ci k)]) (fun _ w => w.2) (.c (.slice none 0 0), upd H nk (.r 34 3 1 [[.c (.int .i64 ks), .c (.int .i64 kk), .c (.int .i64 kv)]])) (OwnL.nil _ _ _) ?_ ?_ ?_ ?_
  · (first | trivial | (simp only [push_cast, seval, *]; done))
  · exact Heap.le_refl _
  · rintro k ⟨v, B⟩ hk hown
    simp only at hown
    have hx := List.getElem?_eq_getElem (l := l) hk; generalize l[k] = x at hx; have hxm := List.mem_of_getElem? hx; have hkl : (k : Int) < l.length := (by omega); have hkw : IntKind.i64.wrap ((k : Int) + 1) = (k : Int) + 1 := wrap_i64 (by omega) (by omega)
    have hcs := hown.cs
    have hBk : B nk = some (.r 34 3 1 [[.c (.int .i64 ks), .c (.int .i64 kk), .c (.int .i64 kv)]]) := hown.get (upd_same _ _ _)
    have hno := ne_old hBk
    have hrow : (ofS (l.take k) ⟨ks, kk, kv⟩).length ≤ 1000000 := by
      have := ofS_len (l.take k) ⟨ks, kk, kv⟩
      rw [List.length_take] at this; omega
    rw [take_snoc hx, ofS_snoc]
    generalize ofS (l.take k) ⟨ks, kk, kv⟩ = O at *
    obtain ⟨kd, s, k2, vv, nm⟩ := x
    simp only
    have hav : El.av ⟨kd, s, k2, vv, nm⟩ = [.c (.int .i64 kd), .c (.int .i64 s), .c (.int .i64 k2), .c (.int .i64 vv), .c (.int .u64 nm)] := rfl
    replace hown := Lib.hid hown
    clear hxm
    by_cases hk1 : kd = 1
    · by_cases hs1 : s = ks
      · by_cases hs2 : k2 = kk
        · rw [if_pos (by simp [hit, hk1, hs1, hs2])]
          subst hk1
          subst hs1
          subst hs2
          repeat' (first
    | refine AW_seq_kn fun K hK => ?_
    | refine AW_block ?_
    | ((first
      | refine AW_region E0 ?_ | refine AW_ret ?_ | refine AW_exit ?_ | refine AW_skip ?_ | unfold retQ); try simp only [push_cast, seval, *])
    | ((first | (apply AW_cond; (case hc => (simp only [push_cast, seval]; rfl))) | (apply ER_guard; (case hb => (simp only [push_cast, seval]; rfl)))); all_goals ((intro hc; first | (exfalso; simp only [push_cast, seval, *] at hc; done) | (exact absurd hc (by decide)) | ((try first | rw [Bool.not_true] at hc | rw [Bool.not_false] at hc); first | (with_reducible replace hc := tTT hc); clear hc | (with_reducible replace hc := tFF hc); clear hc | (have hp := hc; try simp only [decide_eq_true_eq, decide_eq_false_iff_not, bA, bB, bC, bD, bE, bF, bG, bH] at hp))) <;> try simp only [push_cast, seval, *]))
    | (refine Kn.go hK ?_; clear hK K)
    | refine Kn.go (by assumption) ?_
    | (intro n hn; (try simp only [upd_none2, join_none_iff, ite_none, ne_eq] at hn); (try simp only [push_cast, seval, *]))
    | (intro hc)
    | (apply ER_blk; (case hp => rfl); (case hb => (simp only [push_cast, seval]; rfl)); (case hd => (simp only [push_cast, seval]; done)); (case h => (intro hc; simp only [push_cast, seval, *]; rfl)); simp only [push_cast, seval, *])
    | fail)
          rename_i n1 h1
          have hn2 := hn.2
          have hn1n : ¬ n = n1 := hn.1.1
          have hown2 := (unhid hown).new h1 (.r 34 3 1 [[.c (.int .i64 s), .c (.int .i64 k2), .c (.int .i64 vv)]])
          have hH1 := (unhid hown).none h1
          refine does_append1 hown2 rfl rfl rfl (by rw [upd_ne hn1n]; exact hn2) tE47 tS2 tB2 tZ2 rfl (by decide) ?_ ?_ ?_
          · simp only [List.length_map, maxLen]; omega
          · simp only [List.length_map]; omega
          intro x1 B1 hown3
          have hcs1 := hown3.cs
          obtain ⟨B3, hle2, hown5⟩ := OwnL.cut hown3 (Heap.le_new (Heap.le_refl _) hH1)
          replace hown5 := Lib.hid hown5
          clear hown3 hown2 hown
          (try simp only [push_cast, seval, *])
          repeat' (first
    | refine AW_seq_kn fun K hK => ?_
    | refine AW_block ?_
    | ((first
      | refine AW_region E0 ?_ | refine AW_ret ?_ | refine AW_exit ?_ | refine AW_skip ?_ | unfold retQ); try simp only [push_cast, seval, *])
    | ((first | (apply AW_cond; (case hc => (simp only [push_cast, seval]; rfl))) | (apply ER_guard; (case hb => (simp only [push_cast, seval]; rfl)))); all_goals ((intro hc; first | (exfalso; simp only [push_cast, seval, *] at hc; done) | (exact absurd hc (by decide)) | ((try first | rw [Bool.not_true] at hc | rw [Bool.not_false] at hc); first | (with_reducible replace hc := tTT hc); clear hc | (with_reducible replace hc := tFF hc); clear hc | (have hp := hc; try simp only [decide_eq_true_eq, decide_eq_false_iff_not, bA, bB, bC, bD, bE, bF, bG, bH] at hp))) <;> try simp only [push_cast, seval, *]))
    | (refine Kn.go hK ?_; clear hK K)
    | refine Kn.go (by assumption) ?_
    | (intro n hn; (try simp only [upd_none2, join_none_iff, ite_none, ne_eq] at hn); (try simp only [push_cast, seval, *]))
    | (intro hc)
    | (apply ER_blk; (case hp => rfl); (case hb => (simp only [push_cast, seval]; rfl)); (case hd => (simp only [push_cast, seval]; done)); (case h => (intro hc; simp only [push_cast, seval, *]; rfl)); simp only [push_cast, seval, *])
    | fail)
          refine ⟨(x1, B3), ?_, by (first | trivial | (simp only [push_cast, seval, *]; done)), hle2⟩
          have h := unhid hown5
          rw [List.map_append]
          exact h
        · rw [if_neg (by simp [hit, hs2])]
          repeat' (first
    | refine AW_seq_kn fun K hK => ?_
    | refine AW_block ?_
    | ((first
      | refine AW_region E0 ?_ | refine AW_ret ?_ | refine AW_exit ?_ | refine AW_skip ?_ | unfold retQ); try simp only [push_cast, seval, *])
    | ((first | (apply AW_cond; (case hc => (simp only [push_cast, seval]; rfl))) | (apply ER_guard; (case hb => (simp only [push_cast, seval]; rfl)))); all_goals ((intro hc; first | (exfalso; simp only [push_cast, seval, *] at hc; done) | (exact absurd hc (by decide)) | ((try first | rw [Bool.not_true] at hc | rw [Bool.not_false] at hc); first | (with_reducible replace hc := tTT hc); clear hc | (with_reducible replace hc := tFF hc); clear hc | (have hp := hc; try simp only [decide_eq_true_eq, decide_eq_false_iff_not, bA, bB, bC, bD, bE, bF, bG, bH] at hp))) <;> try simp only [push_cast, seval, *]))
    | (refine Kn.go hK ?_; clear hK K)
    | refine Kn.go (by assumption) ?_
    | (intro n hn; (try simp only [upd_none2, join_none_iff, ite_none, ne_eq] at hn); (try simp only [push_cast, seval, *]))
    | (intro hc)
    | (apply ER_blk; (case hp => rfl); (case hb => (simp only [push_cast, seval]; rfl)); (case hd => (simp only [push_cast, seval]; done)); (case h => (intro hc; simp only [push_cast, seval, *]; rfl)); simp only [push_cast, seval, *])
    | fail)
          exact ⟨(v, B), unhid hown, by (first | trivial | (simp only [push_cast, seval, *]; done)), by (repeat' (first | exact Heap.le_refl _ | refine hle_upd2 ?_ _ _ | (refine Heap.le_new ?_ ?_; rotate_left 1; focus (first | assumption | (simp only [upd_none2, upd_get, ne_eq, push_cast, seval, *]; done) | (simp [upd_get, *]; done)))))⟩
      · rw [if_neg (by simp [hit, hs1])]
        repeat' (first
    | refine AW_seq_kn fun K hK => ?_
    | refine AW_block ?_
    | ((first
      | refine AW_region E0 ?_ | refine AW_ret ?_ | refine AW_exit ?_ | refine AW_skip ?_ | unfold retQ); try simp only [push_cast, seval, *])
    | ((first | (apply AW_cond; (case hc => (simp only [push_cast, seval]; rfl))) | (apply ER_guard; (case hb => (simp only [push_cast, seval]; rfl)))); all_goals ((intro hc; first | (exfalso; simp only [push_cast, seval, *] at hc; done) | (exact absurd hc (by decide)) | ((try first | rw [Bool.not_true] at hc | rw [Bool.not_false] at hc); first | (with_reducible replace hc := tTT hc); clear hc | (with_reducible replace hc := tFF hc); clear hc | (have hp := hc; try simp only [decide_eq_true_eq, decide_eq_false_iff_not, bA, bB, bC, bD, bE, bF, bG, bH] at hp))) <;> try simp only [push_cast, seval, *]))
    | (refine Kn.go hK ?_; clear hK K)
    | refine Kn.go (by assumption) ?_
    | (intro n hn; (try simp only [upd_none2, join_none_iff, ite_none, ne_eq] at hn); (try simp only [push_cast, seval, *]))
    | (intro hc)
    | (apply ER_blk; (case hp => rfl); (case hb => (simp only [push_cast, seval]; rfl)); (case hd => (simp only [push_cast, seval]; done)); (case h => (intro hc; simp only [push_cast, seval, *]; rfl)); simp only [push_cast, seval, *])
    | fail)
        exact ⟨(v, B), unhid hown, by (first | trivial | (simp only [push_cast, seval, *]; done)), by (repeat' (first | exact Heap.le_refl _ | refine hle_upd2 ?_ _ _ | (refine Heap.le_new ?_ ?_; rotate_left 1; focus (first | assumption | (simp only [upd_none2, upd_get, ne_eq, push_cast, seval, *]; done) | (simp [upd_get, *]; done)))))⟩
    · rw [if_neg (by simp [hit, hk1])]
      repeat' (first
    | refine AW_seq_kn fun K hK => ?_
    | refine AW_block ?_
    | ((first
      | refine AW_region E0 ?_ | refine AW_ret ?_ | refine AW_exit ?_ | refine AW_skip ?_ | unfold retQ); try simp only [push_cast, seval, *])
    | ((first | (apply AW_cond; (case hc => (simp only [push_cast, seval]; rfl))) | (apply ER_guard; (case hb => (simp only [push_cast, seval]; rfl)))); all_goals ((intro hc; first | (exfalso; simp only [push_cast, seval, *] at hc; done) | (exact absurd hc (by decide)) | ((try first | rw [Bool.not_true] at hc | rw [Bool.not_false] at hc); first | (with_reducible replace hc := tTT hc); clear hc | (with_reducible replace hc := tFF hc); clear hc | (have hp := hc; try simp only [decide_eq_true_eq, decide_eq_false_iff_not, bA, bB, bC, bD, bE, bF, bG, bH] at hp))) <;> try simp only [push_cast, seval, *]))
    | (refine Kn.go hK ?_; clear hK K)
    | refine Kn.go (by assumption) ?_
    | (intro n hn; (try simp only [upd_none2, join_none_iff, ite_none, ne_eq] at hn); (try simp only [push_cast, seval, *]))
    | (intro hc)
    | (apply ER_blk; (case hp => rfl); (case hb => (simp only [push_cast, seval]; rfl)); (case hd => (simp only [push_cast, seval]; done)); (case h => (intro hc; simp only [push_cast, seval, *]; rfl)); simp only [push_cast, seval, *])
    | fail)
      exact ⟨(v, B), unhid hown, by (first | trivial | (simp only [push_cast, seval, *]; done)), by (repeat' (first | exact Heap.le_refl _ | refine hle_upd2 ?_ _ _ | (refine Heap.le_new ?_ ?_; rotate_left 1; focus (first | assumption | (simp only [upd_none2, upd_get, ne_eq, push_cast, seval, *]; done) | (simp [upd_get, *]; done)))))⟩
  · rintro ⟨v, B⟩ hown
    simp only at hown
    rw [List.take_length] at hown
    have hcs := hown.cs
    replace hown := Lib.hid hown
    repeat' (first
    | refine AW_seq_kn fun K hK => ?_
    | refine AW_block ?_
    | ((first
      | refine AW_region E0 ?_ | refine AW_ret ?_ | refine AW_exit ?_ | refine AW_skip ?_ | unfold retQ); try simp only [push_cast, seval, *])
    | ((first | (apply AW_cond; (case hc => (simp only [push_cast, seval]; rfl))) | (apply ER_guard; (case hb => (simp only [push_cast, seval]; rfl)))); all_goals ((intro hc; first | (exfalso; simp only [push_cast, seval, *] at hc; done) | (exact absurd hc (by decide)) | ((try first | rw [Bool.not_true] at hc | rw [Bool.not_false] at hc); first | (with_reducible replace hc := tTT hc); clear hc | (with_reducible replace hc := tFF hc); clear hc | (have hp := hc; try simp only [decide_eq_true_eq, decide_eq_false_iff_not, bA, bB, bC, bD, bE, bF, bG, bH] at hp))) <;> try simp only [push_cast, seval, *]))
    | (refine Kn.go hK ?_; clear hK K)
    | refine Kn.go (by assumption) ?_
    | (intro n hn; (try simp only [upd_none2, join_none_iff, ite_none, ne_eq] at hn); (try simp only [push_cast, seval, *]))
    | (intro hc)
    | (apply ER_blk; (case hp => rfl); (case hb => (simp only [push_cast, seval]; rfl)); (case hd => (simp only [push_cast, seval]; done)); (case h => (intro hc; simp only [push_cast, seval, *]; rfl)); simp only [push_cast, seval, *])
    | fail)
    obtain ⟨B3, hle2, hown5⟩ := OwnL.cut (unhid hown) (Heap.le_new (Heap.le_refl H) hnk)
    exact ⟨_, _, Weak.less hle2, hown5⟩
theorem Of_p (l : List El) (hl : l.length ≤ 1000000) (key : Rec) : Pure Try.prog 22 [.l 5 (l.map El.av), .g (Rec.av key)] (.l 1 ((ofS l key).map i1)) := fun H =>
  ACall.weak ((Of_o l hl key H).mono fun r H' h => ⟨_, _, h.weak (fun F F' hF hi _ => hi), rfl, rfl⟩)
theorem refOf_p (l : List El) (hl : l.length ≤ 1000000) (key : Rec) : Pure Try.prog 23 [.l 5 (l.map El.av), .g (Rec.av key)] (.l 1 ((ofS l key).map i1)) := fun H =>
  ACall.weak ((refOf_o l hl key H).mono fun r H' h => ⟨_, _, h.weak (fun F F' hF hi _ => hi), rfl, rfl⟩)
end Go.Proofs.Ytfdedgeljijfdaa
