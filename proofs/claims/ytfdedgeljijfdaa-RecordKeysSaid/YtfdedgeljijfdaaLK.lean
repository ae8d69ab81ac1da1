/- The law RecordKeys, walked. -/
import Derived.Test.YtfdedgeljijfdaaWK
import Derived.Test.YtfdedgeljijfdaaMK
import Derived.Test.YtfdedgeljijfdaaOF
import Derived.Test.YtfdedgeljijfdaaSH
namespace Go.Proofs.Ytfdedgeljijfdaa
open Go.RowKit
open Nat renaming reduceEqDiff → nA, reduceLT → nB, reduceLeDiff → nC, reduceAdd → nD, reduceMul → nE, reduceSub → nF, reduceBEq → nG
open Int renaming reduceToNat → iA, reduceLT → iB, reduceLE → iC, reduceEq → iD
open Bool renaming and_eq_true → bA, or_eq_true → bB, or_eq_false_iff → bC, and_eq_false_iff → bD, not_eq_true' → bE, not_eq_false' → bF, not_true → bG, not_false → bH
set_option linter.all false
set_option maxHeartbeats 4000000
attribute [local irreducible] AW Does ACall tE tS tB tZ
def dLLK0 : List En := [(0, false, []), (1, false, []), (3, true, []), (4, true, []), (2, false, [3, 4]), (5, false, []), (6, false, []), (7, false, []), (8, false, []), (9, false, []), (10, false, []), (11, false, []), (12, false, []), (13, false, []), (14, false, []), (15, false, []), (16, false, []), (17, false, []), (18, false, []), (19, false, []), (20, false, []), (23, false, []), (24, true, []), (21, false, [24]), (22, false, []), (25, false, []), (26, false, []), (27, false, []), (28, false, []), (29, false, [])]
def dALK0 : List (List Nat) := [[], [], [0, 1], [], [], [0, 1, 2, 3, 4], [0, 1, 2, 3, 4, 5], [0, 1, 2, 3, 4, 5, 6], [0, 1, 2, 3, 4, 5, 6, 7], [0, 1, 2, 3, 4, 5, 6, 7, 8], [0, 1, 2, 3, 4, 5, 6, 7, 8], [0, 1, 2, 3, 4, 5, 6, 7, 8, 9, 10], [0, 1, 2, 3, 4, 5, 6, 7, 8, 9, 10, 11], [0, 1, 2, 3, 4, 5, 6, 7, 8, 9, 10, 11, 12], [0, 1, 2, 3, 4, 5, 6, 7, 8, 9, 10, 11, 12, 13], [0, 1, 2, 3, 4, 5, 6, 7, 8, 9, 10, 11, 12, 13, 14], [0, 1, 2, 3, 4, 5, 6, 7, 8, 9, 10, 11, 12, 13, 14], [0, 1, 2, 3, 4, 5, 6, 7, 8, 9, 10, 11, 12, 13, 14, 15, 16], [0, 1, 2, 3, 4, 5, 6, 7, 8, 9, 10, 11, 12, 13, 14, 15, 16, 17], [0, 1, 2, 3, 4, 5, 6, 7, 8, 9, 10, 11, 12, 13, 14, 15, 16, 17, 18], [0, 1, 2, 3, 4, 5, 6, 7, 8, 9, 10, 11, 12, 13, 14, 15, 16, 17, 18], [0, 1, 2, 3, 4, 5, 6, 7, 8, 9, 10, 11, 12, 13, 14, 15, 16, 17, 18, 19, 20], [0, 1, 2, 3, 4, 5, 6, 7, 8, 9, 10, 11, 12, 13, 14, 15, 16, 17, 18, 19, 20, 21], [0, 1, 2, 3, 4, 5, 6, 7, 8, 9, 10, 11, 12, 13, 14, 15, 16, 17, 18], [0, 1, 2, 3, 4, 5, 6, 7, 8, 9, 10, 11, 12, 13, 14, 15, 16, 17, 18], [0, 1, 2, 3, 4, 5, 6, 7, 8, 9, 10, 11, 12, 13, 14, 15, 16, 17, 18, 19, 20, 21, 23, 24], [0, 1, 2, 3, 4, 5, 6, 7, 8, 9, 10, 11, 12, 13, 14, 15, 16, 17, 18, 19, 20, 21, 23, 24, 25], [0, 1, 2, 3, 4, 5, 6, 7, 8, 9, 10, 11, 12, 13, 14, 15, 16, 17, 18, 19, 20, 21, 22, 23, 24, 25, 26], [0, 1, 2, 3, 4, 5, 6, 7, 8, 9, 10, 11, 12, 13, 14, 15, 16, 17, 18, 19, 20, 21, 22, 23, 24, 25, 26, 27], [0, 1, 2, 3, 4, 5, 6, 7, 8, 9, 10, 11, 12, 13, 14, 15, 16, 17, 18, 19, 20, 21, 22, 23, 24, 25, 26, 27, 28]]
attribute [push_cast] dLLK0

theorem cmp_back (a b : Rec) : cmpR b a = - cmpR a b := by
  unfold cmpR orS cmpI orS orS
  repeat' split
  all_goals omega
theorem cmp_self (a : Rec) : cmpR a a = 0 := cmpR_zero.2 ⟨rfl, rfl⟩
theorem ofS_eq {l : List El} {a b : Rec} (h : cmpR a b = 0) : ofS l a = ofS l b := by
  obtain ⟨h1, h2⟩ := cmpR_zero.1 h
  have : hit a = hit b := by funext x; unfold hit; rw [h1, h2]
  unfold ofS; rw [this]
def ky (x : El) : Int × Int := (x.s, x.k)
def cov (met : List (Int × Int)) (l : List El) : Nat := (l.filter fun x => decide (x.kind = 1) && decide (ky x ∈ met)).length
theorem cov_nil (l : List El) : cov [] l = 0 := by unfold cov; rw [List.filter_eq_nil_iff.2 (by simp)]; rfl
theorem cov_le (met : List (Int × Int)) (l : List El) : cov met l ≤ l.length := List.length_filter_le _ _
theorem cov_add {met : List (Int × Int)} {s k v : Int} (h : ¬ (s, k) ∈ met) : ∀ l : List El, cov (met ++ [(s, k)]) l = cov met l + (ofS l ⟨s, k, v⟩).length
  | [] => rfl
  | x :: l => by
    have ih := cov_add (v := v) h l
    unfold cov ofS at ih ⊢
    simp only [List.filter_cons]
    by_cases h1 : x.kind = 1
    · by_cases h2 : ky x = (s, k)
      · have h3 : x.s = s ∧ x.k = k := by simpa [ky] using h2
        have h4 : ¬ ky x ∈ met := by rw [h2]; exact h
        simp [h1, h2, h, hit, h3] at ih ⊢
        omega
      · have h3 : ¬ (x.s = s ∧ x.k = k) := by simpa [ky] using h2
        by_cases h4 : ky x ∈ met
        · simp [h1, h2, h4, hit, h3] at ih ⊢
          omega
        · simp [h1, h2, h4, hit, h3] at ih ⊢
          omega
    · simp [h1, hit] at ih ⊢
      omega
def cntR (l : List El) : Nat := (l.filter fun x => decide (x.kind = 1)).length
theorem cnt_le (l : List El) : cntR l ≤ l.length := List.length_filter_le _ _
theorem cnt_snoc (l : List El) (x : El) : cntR (l ++ [x]) = if x.kind = 1 then cntR l + 1 else cntR l := by
  unfold cntR
  rw [List.filter_append, List.filter_cons]
  split <;> simp_all
theorem cov_all {met : List (Int × Int)} {l : List El} (h : ∀ x ∈ l, x.kind = 1 → ky x ∈ met) : cov met l = cntR l := by
  unfold cov cntR
  congr 1
  apply List.filter_congr
  intro x hx
  by_cases h1 : x.kind = 1
  · simp [h1, h x hx h1]
  · simp [h1]
theorem look_y {k : Int × Int} {ls : List (ME (Int × Int))} (hy : ∀ e ∈ ls, e.y = .c (.bool true)) : ((mget k ls).map ME.y).getD (.c (.bool false)) = .c (.bool (decide (k ∈ ls.map ME.k))) := by
  cases h : mget k ls with
  | none =>
    have := mget_none_iff.1 h
    simp [this]
  | some e =>
    obtain ⟨h1, h2⟩ := mget_mem h
    have h3 : k ∈ ls.map ME.k := List.mem_map.2 ⟨e, h1, h2⟩
    simp only [Option.map_some, Option.getD_some, hy e h1, h3, decide_true]
structure S6 where
  ls : List (ME (Int × Int))
  c : Nat
  al : Nat
  cn : Nat
theorem le_one {G : Heap} (n : Nat) (b : Blk) : Heap.le (upd (fun _ => none) n b) (upd G n b) := hle_upd2 (fun _ _ h => by cases h) n b
theorem recordKeys_a (l : List El) (hl : l.length ≤ maxLen) (a b : Rec) (H : Heap) :
    ACall Try.prog 7 [.l 5 (l.map El.av), .g (Rec.av a), .g (Rec.av b)] H fun r H' => r = .c (.bool true) := by
  have hw := wakes05_p
  have hEU := tU52
  unfold maxLen at hl
  have c1 := compare_p a b
  have c2 := compare_p b a
  have c3 := compare_p a a
  have c4 := sameKey_p a b
  have o1 := fun h => Of_p l h a
  have o2 := fun h => Of_p l h b
  have o3 := fun h s k v => Of_p l h ⟨s, k, v⟩
  have hoe := @ofS_eq l a b
  have hv := cmpR_val a b
  rw [cmp_back a b] at c2
  rw [cmp_self a] at c3
  generalize cmpR a b = R at *
  generalize ofS l a = O1 at *
  generalize ofS l b = O2 at *
  obtain ⟨pa, ak, av⟩ := a
  obtain ⟨bs, bk, bv⟩ := b
  have hkav : Rec.av ⟨pa, ak, av⟩ = [.c (.int .i64 pa), .c (.int .i64 ak), .c (.int .i64 av)] := rfl
  have hkbv : Rec.av ⟨bs, bk, bv⟩ = [.c (.int .i64 bs), .c (.int .i64 bk), .c (.int .i64 bv)] := rfl
  rw [hkav, hkbv] at c1 c2 c4 ⊢
  rw [hkav] at c3 o1
  rw [hkbv] at o2
  clear hkav hkbv
  by_cases h1 : 300 < l.length
  · have h1' : (300 : Int) < l.length := by omega
    clear o1 o2 o3 hoe c1 c2 c3 c4
    refine ACall_of' Try.func7 rfl (Ent_of Try.func7 (by kernel_rfl) rfl) (by simp [Try.ntmps7]) ?_; simp only [Try.ntmps7, Try.results7]
    repeat' (first
    | refine AW_seq_kn fun K hK => ?_
    | refine AW_block ?_
    | (refine does_call rfl rfl ?_; simp only [push_cast, seval, *]; refine ACall.monoP (compare_p ⟨_, _, _⟩ ⟨_, _, _⟩ _) ?_; (try simp only [push_cast, seval, *]))
    | (refine does_call rfl rfl ?_; simp only [push_cast, seval, *]; refine ACall.monoP (sameKey_p ⟨_, _, _⟩ ⟨_, _, _⟩ _) ?_; (try simp only [push_cast, seval, *]))
    | (refine does_call rfl rfl ?_; simp only [push_cast, seval, *]; refine ACall.monoP (wakes05_p _) ?_; (try simp only [push_cast, seval, *]))
    | ((first
      | refine AW_region_draw (id := 5) E0 (fun f => [].contains f) dLLK0 dALK0 mixed (by kernel_rfl) ?_
      | refine AW_region E0 ?_ | refine AW_ret ?_ | refine AW_exit ?_ | refine AW_skip ?_ | unfold retQ); try simp only [push_cast, seval, *])
    | ((first | (apply AW_cond; (case hc => (simp only [push_cast, seval]; rfl))) | (apply ER_guard; (case hb => (simp only [push_cast, seval]; rfl)))); all_goals ((intro hc; first | (exfalso; simp only [push_cast, seval, *] at hc; done) | (exact absurd hc (by decide)) | ((try first | rw [Bool.not_true] at hc | rw [Bool.not_false] at hc); first | (with_reducible replace hc := tTT hc); clear hc | (with_reducible replace hc := tFF hc); clear hc | (have hp := hc; try simp only [decide_eq_true_eq, decide_eq_false_iff_not, bA, bB, bC, bD, bE, bF, bG, bH] at hp))) <;> try simp only [push_cast, seval, *]))
    | (refine Kn.go hK ?_; clear hK K)
    | refine Kn.go (by assumption) ?_
    | (intro n hn; (try simp only [upd_none2, join_none_iff, ite_none, ne_eq] at hn); (try simp only [push_cast, seval, *]))
    | (intro hc)
    | (apply ER_blk; (case hp => rfl); (case hb => (simp only [push_cast, seval]; rfl)); (case hd => (simp only [push_cast, seval]; done)); (case h => (intro hc; simp only [push_cast, seval, *]; rfl)); simp only [push_cast, seval, *])
    | fail)
    exact ⟨_, _, Weak.refl _ _, rfl⟩
  have h1' : ¬ (300 : Int) < l.length := by omega
  replace o1 := o1 (by omega)
  replace o2 := o2 (by omega)
  replace o3 := o3 (by omega)
  simp only [Rec.av] at o3
  replace o3 := Lib.hid o3
  have hvv : (R = -1 ∧ (-R) = 1) ∨ (R = 0 ∧ (-R) = 0 ∧ O1 = O2) ∨ (R = 1 ∧ (-R) = -1) := by
    rcases hv with h | h | h
    · exact .inl ⟨h, by omega⟩
    · exact .inr (.inl ⟨h, by omega, hoe h⟩)
    · exact .inr (.inr ⟨h, by omega⟩)
  clear hv hoe
  rcases hvv with ⟨rfl, h2⟩ | ⟨rfl, h2, rfl⟩ | ⟨rfl, h2⟩
  all_goals
    rw [h2] at c2
    clear h2
    have hwm : IntKind.i64.wrap (-1) = -1 := by decide
    have hwp : IntKind.i64.wrap 1 = 1 := by decide
    have hwz : IntKind.i64.wrap (-0) = 0 := by decide
    have hwz2 : IntKind.i64.wrap 0 = 0 := by decide
    refine ACall_of' Try.func7 rfl (Ent_of Try.func7 (by kernel_rfl) rfl) (by simp [Try.ntmps7]) ?_; simp only [Try.ntmps7, Try.results7]
    repeat' (first
    | refine AW_seq_kn fun K hK => ?_
    | refine AW_block ?_
    | (refine does_call rfl rfl ?_; simp only [push_cast, seval, *]; refine ACall.monoP (c1 _) ?_; (try simp only [push_cast, seval, *]))
    | (refine does_call rfl rfl ?_; simp only [push_cast, seval, *]; refine ACall.monoP (c2 _) ?_; (try simp only [push_cast, seval, *]))
    | (refine does_call rfl rfl ?_; simp only [push_cast, seval, *]; refine ACall.monoP (c3 _) ?_; (try simp only [push_cast, seval, *]))
    | (refine does_call rfl rfl ?_; simp only [push_cast, seval, *]; refine ACall.monoP (c4 _) ?_; (try simp only [push_cast, seval, *]))
    | (refine does_call rfl rfl ?_; simp only [push_cast, seval, *]; refine ACall.monoP (o1 _) ?_; (try simp only [push_cast, seval, *]))
    | (refine does_call rfl rfl ?_; simp only [push_cast, seval, *]; refine ACall.monoP (o2 _) ?_; (try simp only [push_cast, seval, *]))
    | (refine does_call rfl rfl ?_; simp only [push_cast, seval, *]; refine ACall.monoP (compare_p ⟨_, _, _⟩ ⟨_, _, _⟩ _) ?_; (try simp only [push_cast, seval, *]))
    | (refine does_call rfl rfl ?_; simp only [push_cast, seval, *]; refine ACall.monoP (sameKey_p ⟨_, _, _⟩ ⟨_, _, _⟩ _) ?_; (try simp only [push_cast, seval, *]))
    | (refine does_call rfl rfl ?_; simp only [push_cast, seval, *]; refine ACall.monoP (wakes05_p _) ?_; (try simp only [push_cast, seval, *]))
    | ((first
      | refine AW_region_draw (id := 5) E0 (fun f => [].contains f) dLLK0 dALK0 mixed (by kernel_rfl) ?_
      | refine AW_region E0 ?_ | refine AW_ret ?_ | refine AW_exit ?_ | refine AW_skip ?_ | unfold retQ); try simp only [push_cast, seval, *])
    | ((first | (apply AW_cond; (case hc => (simp only [push_cast, seval]; rfl))) | (apply ER_guard; (case hb => (simp only [push_cast, seval]; rfl)))); all_goals ((intro hc; first | (exfalso; simp only [push_cast, seval, *] at hc; done) | (exact absurd hc (by decide)) | ((try first | rw [Bool.not_true] at hc | rw [Bool.not_false] at hc); first | (with_reducible replace hc := tTT hc); clear hc | (with_reducible replace hc := tFF hc); clear hc | (have hp := hc; try simp only [decide_eq_true_eq, decide_eq_false_iff_not, bA, bB, bC, bD, bE, bF, bG, bH] at hp))) <;> try simp only [push_cast, seval, *]))
    | (refine Kn.go hK ?_; clear hK K)
    | refine Kn.go (by assumption) ?_
    | (intro n hn; (try simp only [upd_none2, join_none_iff, ite_none, ne_eq] at hn); (try simp only [push_cast, seval, *]))
    | (intro hc)
    | (apply ER_blk; (case hp => rfl); (case hb => (simp only [push_cast, seval]; rfl)); (case hd => (simp only [push_cast, seval]; done)); (case h => (intro hc; simp only [push_cast, seval, *]; rfl)); simp only [push_cast, seval, *])
    | fail)
    refine does_makeMap k2V rfl ?_
    intro n8 hn8
    (try simp only [push_cast, seval, *])
    repeat' (first
    | refine AW_seq_kn fun K hK => ?_
    | refine AW_block ?_
    | (refine does_call rfl rfl ?_; simp only [push_cast, seval, *]; refine ACall.monoP (compare_p ⟨_, _, _⟩ ⟨_, _, _⟩ _) ?_; (try simp only [push_cast, seval, *]))
    | (refine does_call rfl rfl ?_; simp only [push_cast, seval, *]; refine ACall.monoP (sameKey_p ⟨_, _, _⟩ ⟨_, _, _⟩ _) ?_; (try simp only [push_cast, seval, *]))
    | (refine does_call rfl rfl ?_; simp only [push_cast, seval, *]; refine ACall.monoP (wakes05_p _) ?_; (try simp only [push_cast, seval, *]))
    | ((first
      | refine AW_region_draw (id := 5) E0 (fun f => [].contains f) dLLK0 dALK0 mixed (by kernel_rfl) ?_
      | refine AW_region E0 ?_ | refine AW_ret ?_ | refine AW_exit ?_ | refine AW_skip ?_ | unfold retQ); try simp only [push_cast, seval, *])
    | ((first | (apply AW_cond; (case hc => (simp only [push_cast, seval]; rfl))) | (apply ER_guard; (case hb => (simp only [push_cast, seval]; rfl)))); all_goals ((intro hc; first | (exfalso; simp only [push_cast, seval, *] at hc; done) | (exact absurd hc (by decide)) | ((try first | rw [Bool.not_true] at hc | rw [Bool.not_false] at hc); first | (with_reducible replace hc := tTT hc); clear hc | (with_reducible replace hc := tFF hc); clear hc | (have hp := hc; try simp only [decide_eq_true_eq, decide_eq_false_iff_not, bA, bB, bC, bD, bE, bF, bG, bH] at hp))) <;> try simp only [push_cast, seval, *]))
    | (refine Kn.go hK ?_; clear hK K)
    | refine Kn.go (by assumption) ?_
    | (intro n hn; (try simp only [upd_none2, join_none_iff, ite_none, ne_eq] at hn); (try simp only [push_cast, seval, *]))
    | (intro hc)
    | (apply ER_blk; (case hp => rfl); (case hb => (simp only [push_cast, seval]; rfl)); (case hd => (simp only [push_cast, seval]; done)); (case h => (intro hc; simp only [push_cast, seval, *]; rfl)); simp only [push_cast, seval, *])
    | fail)
    clear o1 o2 c1 c2 c3 c4 hwm hwp hwz hwz2 hn hn8
    refine AW_loopX (σ := S6) l.length (fun k s => (∀ x ∈ l.take k, x.kind = 1 → ky x ∈ s.ls.map ME.k) ∧ (∀ e ∈ s.ls, e.y = .c (.bool true)) ∧ MW M0 s.ls ∧ s.al = cov (s.ls.map ME.k) l ∧ s.cn = cntR (l.take k)) (fun k s => [(0, .l 5 (l.map El.av)), (7, ci s.al), (8, .c (.map (some n8))), (9, ci s.cn), (49, .l 5 (l.map El.av)), (50, ci l.length), (51, ci k)]) (fun _ s => upd (fun _ => none) n8 (bm k2V s.ls s.c M0)) ⟨[], 0, 0, 0⟩ ⟨by simp, by simp, MW.nil _, (cov_nil l).symm, rfl⟩ ?_ ?_ ?_ ?_
    · (first | trivial | (simp only [push_cast, seval, *]; done))
    · exact le_one _ _
    · rintro k ⟨ls, c, al, cn⟩ hk ⟨i1, i2, i3, i4, i5⟩
      simp only at i1 i2 i3 i4 i5
      have hx := List.getElem?_eq_getElem (l := l) hk; generalize l[k] = x at hx; have hxm := List.mem_of_getElem? hx; have hkl : (k : Int) < l.length := (by omega); have hkw : IntKind.i64.wrap ((k : Int) + 1) = (k : Int) + 1 := wrap_i64 (by omega) (by omega)
      have htk : l.take (k + 1) = l.take k ++ [x] := take_snoc hx
      obtain ⟨kd, s, kk, vv, nm⟩ := x
      have hav : El.av ⟨kd, s, kk, vv, nm⟩ = [.c (.int .i64 kd), .c (.int .i64 s), .c (.int .i64 kk), .c (.int .i64 vv), .c (.int .u64 nm)] := rfl
      have hcn : cntR (l.take (k + 1)) ≤ 300 := Nat.le_trans (cnt_le _) (by rw [List.length_take]; omega)
      have hB8 : upd (fun _ => none) n8 (bm k2V ls c M0) n8 = some (bm k2V ls c M0) := upd_same _ _ _
      have hno := ne_old hB8
      have hlk := look_y (k := (s, kk)) i2
      rw [htk, cnt_snoc] at hcn
      by_cases hk1 : kd = 1
      · subst hk1
        simp only [if_true] at hcn
        have hwn : IntKind.i64.wrap ((cn : Int) + 1) = ((cn + 1 : Nat) : Int) := by rw [wrap_i64 (by omega) (by omega)]; omega
        have hcn2 : cn + 1 = cntR (l.take (k + 1)) := by rw [htk, cnt_snoc, i5]; rfl
        by_cases hm : (s, kk) ∈ ls.map ME.k
        · rw [decide_eq_true hm] at hlk
          have j1 : ∀ x ∈ l.take (k + 1), x.kind = 1 → ky x ∈ ls.map ME.k := by
            intro x hx h
            rw [htk] at hx
            rcases List.mem_append.1 hx with hx | hx
            · exact i1 x hx h
            · rw [List.mem_singleton.1 hx]; exact hm
          replace j1 := Lib.hid j1
          replace hlk := Lib.hid hlk
          replace i2 := Lib.hid i2
          replace i4 := Lib.hid i4
          replace hcn2 := Lib.hid hcn2
          generalize upd (fun _ => none) n8 (bm k2V ls c M0) = B at *
          clear i1 i5 hm htk hxm hcn
          repeat' (first
    | refine AW_seq_kn fun K hK => ?_
    | refine AW_block ?_
    | (refine does_lookupV (enc := k2V) (n := n8) (l := ls) (c := c) (M := M0) (k := (s, kk)) (z := .bool false) (zA := .c (.bool false)) kk2 rfl (by simp only [push_cast, seval, *]) (by simp only [push_cast, seval, *]) i3 hEU zero_bool (fun _ => .c _) (by simp only [push_cast, seval, *]; exact IsK.g (u2 (s, kk))) (unhid hlk) ?_; (try simp only [push_cast, seval, *]))
    | (refine does_call rfl rfl ?_; simp only [push_cast, seval, *]; refine ACall.monoP (compare_p ⟨_, _, _⟩ ⟨_, _, _⟩ _) ?_; (try simp only [push_cast, seval, *]))
    | (refine does_call rfl rfl ?_; simp only [push_cast, seval, *]; refine ACall.monoP (sameKey_p ⟨_, _, _⟩ ⟨_, _, _⟩ _) ?_; (try simp only [push_cast, seval, *]))
    | (refine does_call rfl rfl ?_; simp only [push_cast, seval, *]; refine ACall.monoP (wakes05_p _) ?_; (try simp only [push_cast, seval, *]))
    | ((first
      | refine AW_region_draw (id := 5) E0 (fun f => [].contains f) dLLK0 dALK0 mixed (by kernel_rfl) ?_
      | refine AW_region E0 ?_ | refine AW_ret ?_ | refine AW_exit ?_ | refine AW_skip ?_ | unfold retQ); try simp only [push_cast, seval, *])
    | ((first | (apply AW_cond; (case hc => (simp only [push_cast, seval]; rfl))) | (apply ER_guard; (case hb => (simp only [push_cast, seval]; rfl)))); all_goals ((intro hc; first | (exfalso; simp only [push_cast, seval, *] at hc; done) | (exact absurd hc (by decide)) | ((try first | rw [Bool.not_true] at hc | rw [Bool.not_false] at hc); first | (with_reducible replace hc := tTT hc); clear hc | (with_reducible replace hc := tFF hc); clear hc | (have hp := hc; try simp only [decide_eq_true_eq, decide_eq_false_iff_not, bA, bB, bC, bD, bE, bF, bG, bH] at hp))) <;> try simp only [push_cast, seval, *]))
    | (refine Kn.go hK ?_; clear hK K)
    | refine Kn.go (by assumption) ?_
    | (intro n hn; (try simp only [upd_none2, join_none_iff, ite_none, ne_eq] at hn); (try simp only [push_cast, seval, *]))
    | (intro hc)
    | (apply ER_blk; (case hp => rfl); (case hb => (simp only [push_cast, seval]; rfl)); (case hd => (simp only [push_cast, seval]; done)); (case h => (intro hc; simp only [push_cast, seval, *]; rfl)); simp only [push_cast, seval, *])
    | fail)
          exact ⟨⟨ls, c, al, cn + 1⟩, ⟨unhid j1, unhid i2, i3, unhid i4, unhid hcn2⟩, by first | (simp; done) | exact ⟨rfl, rfl⟩, by first | rfl | exact Heap.le_refl _⟩
        · rw [decide_eq_false hm] at hlk
          have hof := unhid o3 s kk vv
          have hcov := cov_add (v := vv) hm l
          have hc2 := cov_le (ls.map ME.k ++ [(s, kk)]) l
          have hkeys : (mput (s, kk) (.bool true) (.c (.bool true)) c ls).map ME.k = ls.map ME.k ++ [(s, kk)] := by rw [mput_keys, if_neg hm]
          have hW2 : MW M0 (mput (s, kk) (.bool true) (.c (.bool true)) c ls) := MW.put (Mem.le.refl M0) (.c _) i3
          have hy2 : ∀ e ∈ mput (s, kk) (.bool true) (.c (.bool true)) c ls, e.y = .c (.bool true) := by
            rw [mput_none (mget_none_iff.2 hm)]
            intro e he
            rcases List.mem_append.1 he with he | he
            · exact i2 e he
            · rw [List.mem_singleton.1 he]
          have j1 : ∀ x ∈ l.take (k + 1), x.kind = 1 → ky x ∈ (mput (s, kk) (.bool true) (.c (.bool true)) c ls).map ME.k := by
            rw [hkeys]
            intro x hx h
            rw [htk] at hx
            rcases List.mem_append.1 hx with hx | hx
            · exact List.mem_append_left _ (i1 x hx h)
            · rw [List.mem_singleton.1 hx]; exact List.mem_append_right _ (List.mem_singleton.2 rfl)
          have i4' : al + (ofS l ⟨s, kk, vv⟩).length = cov ((mput (s, kk) (.bool true) (.c (.bool true)) c ls).map ME.k) l := by rw [hkeys, hcov, i4]
          have hwa : IntKind.i64.wrap ((al : Int) + ((ofS l ⟨s, kk, vv⟩).length : Int)) = ((al + (ofS l ⟨s, kk, vv⟩).length : Nat) : Int) := by rw [wrap_i64 (by omega) (by omega)]; omega
          generalize ofS l ⟨s, kk, vv⟩ = O at *
          replace j1 := Lib.hid j1
          replace hlk := Lib.hid hlk
          replace hy2 := Lib.hid hy2
          replace hW2 := Lib.hid hW2
          replace i4' := Lib.hid i4'
          replace hcn2 := Lib.hid hcn2
          generalize upd (fun _ => none) n8 (bm k2V ls c M0) = B at *
          clear i1 i2 i4 i5 hm htk hxm hcn hcov hc2 hkeys
          repeat' (first
    | refine AW_seq_kn fun K hK => ?_
    | refine AW_block ?_
    | (refine does_lookupV (enc := k2V) (n := n8) (l := ls) (c := c) (M := M0) (k := (s, kk)) (z := .bool false) (zA := .c (.bool false)) kk2 rfl (by simp only [push_cast, seval, *]) (by simp only [push_cast, seval, *]) i3 hEU zero_bool (fun _ => .c _) (by simp only [push_cast, seval, *]; exact IsK.g (u2 (s, kk))) (unhid hlk) ?_; (try simp only [push_cast, seval, *]))
    | (refine does_mapUpdateC (n := n8) (enc := k2V) (l := ls) (c := c) (M := M0) (k := (s, kk)) (v := .bool true) kk2 (.inl rfl) (by simp only [push_cast, seval, *]) (by simp only [push_cast, seval, *]) hEU (by simp only [push_cast, seval, *]; exact IsK.g (u2 (s, kk))) (by simp only [push_cast, seval, *]; exact IsK.c _) ?_; (try simp only [push_cast, seval, *]))
    | (refine does_call rfl rfl ?_; simp only [push_cast, seval, *]; refine ACall.monoP (hof _) ?_; (try simp only [push_cast, seval, *]))
    | (refine does_call rfl rfl ?_; simp only [push_cast, seval, *]; refine ACall.monoP (compare_p ⟨_, _, _⟩ ⟨_, _, _⟩ _) ?_; (try simp only [push_cast, seval, *]))
    | (refine does_call rfl rfl ?_; simp only [push_cast, seval, *]; refine ACall.monoP (sameKey_p ⟨_, _, _⟩ ⟨_, _, _⟩ _) ?_; (try simp only [push_cast, seval, *]))
    | (refine does_call rfl rfl ?_; simp only [push_cast, seval, *]; refine ACall.monoP (wakes05_p _) ?_; (try simp only [push_cast, seval, *]))
    | ((first
      | refine AW_region_draw (id := 5) E0 (fun f => [].contains f) dLLK0 dALK0 mixed (by kernel_rfl) ?_
      | refine AW_region E0 ?_ | refine AW_ret ?_ | refine AW_exit ?_ | refine AW_skip ?_ | unfold retQ); try simp only [push_cast, seval, *])
    | ((first | (apply AW_cond; (case hc => (simp only [push_cast, seval]; rfl))) | (apply ER_guard; (case hb => (simp only [push_cast, seval]; rfl)))); all_goals ((intro hc; first | (exfalso; simp only [push_cast, seval, *] at hc; done) | (exact absurd hc (by decide)) | ((try first | rw [Bool.not_true] at hc | rw [Bool.not_false] at hc); first | (with_reducible replace hc := tTT hc); clear hc | (with_reducible replace hc := tFF hc); clear hc | (have hp := hc; try simp only [decide_eq_true_eq, decide_eq_false_iff_not, bA, bB, bC, bD, bE, bF, bG, bH] at hp))) <;> try simp only [push_cast, seval, *]))
    | (refine Kn.go hK ?_; clear hK K)
    | refine Kn.go (by assumption) ?_
    | (intro n hn; (try simp only [upd_none2, join_none_iff, ite_none, ne_eq] at hn); (try simp only [push_cast, seval, *]))
    | (intro hc)
    | (apply ER_blk; (case hp => rfl); (case hb => (simp only [push_cast, seval]; rfl)); (case hd => (simp only [push_cast, seval]; done)); (case h => (intro hc; simp only [push_cast, seval, *]; rfl)); simp only [push_cast, seval, *])
    | fail)
          exact ⟨⟨mput (s, kk) (.bool true) (.c (.bool true)) c ls, mclk (s, kk) ls c, al + O.length, cn + 1⟩, ⟨unhid j1, unhid hy2, unhid hW2, unhid i4', unhid hcn2⟩, by first | (simp; done) | exact ⟨rfl, rfl⟩, by first | rfl | exact Heap.le_refl _⟩
      · rw [if_neg hk1] at hcn
        have j1 : ∀ x ∈ l.take (k + 1), x.kind = 1 → ky x ∈ ls.map ME.k := by
          intro x hx h
          rw [htk] at hx
          rcases List.mem_append.1 hx with hx | hx
          · exact i1 x hx h
          · rw [List.mem_singleton.1 hx] at h; exact absurd h hk1
        have hcn2 : cn = cntR (l.take (k + 1)) := by rw [htk, cnt_snoc, if_neg hk1, i5]
        replace j1 := Lib.hid j1
        replace hlk := Lib.hid hlk
        replace i2 := Lib.hid i2
        replace i4 := Lib.hid i4
        replace hcn2 := Lib.hid hcn2
        generalize upd (fun _ => none) n8 (bm k2V ls c M0) = B at *
        clear i1 i5 htk hxm hcn
        repeat' (first
    | refine AW_seq_kn fun K hK => ?_
    | refine AW_block ?_
    | (refine does_call rfl rfl ?_; simp only [push_cast, seval, *]; refine ACall.monoP (compare_p ⟨_, _, _⟩ ⟨_, _, _⟩ _) ?_; (try simp only [push_cast, seval, *]))
    | (refine does_call rfl rfl ?_; simp only [push_cast, seval, *]; refine ACall.monoP (sameKey_p ⟨_, _, _⟩ ⟨_, _, _⟩ _) ?_; (try simp only [push_cast, seval, *]))
    | (refine does_call rfl rfl ?_; simp only [push_cast, seval, *]; refine ACall.monoP (wakes05_p _) ?_; (try simp only [push_cast, seval, *]))
    | ((first
      | refine AW_region_draw (id := 5) E0 (fun f => [].contains f) dLLK0 dALK0 mixed (by kernel_rfl) ?_
      | refine AW_region E0 ?_ | refine AW_ret ?_ | refine AW_exit ?_ | refine AW_skip ?_ | unfold retQ); try simp only [push_cast, seval, *])
    | ((first | (apply AW_cond; (case hc => (simp only [push_cast, seval]; rfl))) | (apply ER_guard; (case hb => (simp only [push_cast, seval]; rfl)))); all_goals ((intro hc; first | (exfalso; simp only [push_cast, seval, *] at hc; done) | (exact absurd hc (by decide)) | ((try first | rw [Bool.not_true] at hc | rw [Bool.not_false] at hc); first | (with_reducible replace hc := tTT hc); clear hc | (with_reducible replace hc := tFF hc); clear hc | (have hp := hc; try simp only [decide_eq_true_eq, decide_eq_false_iff_not, bA, bB, bC, bD, bE, bF, bG, bH] at hp))) <;> try simp only [push_cast, seval, *]))
    | (refine Kn.go hK ?_; clear hK K)
    | refine Kn.go (by assumption) ?_
    | (intro n hn; (try simp only [upd_none2, join_none_iff, ite_none, ne_eq] at hn); (try simp only [push_cast, seval, *]))
    | (intro hc)
    | (apply ER_blk; (case hp => rfl); (case hb => (simp only [push_cast, seval]; rfl)); (case hd => (simp only [push_cast, seval]; done)); (case h => (intro hc; simp only [push_cast, seval, *]; rfl)); simp only [push_cast, seval, *])
    | fail)
        exact ⟨⟨ls, c, al, cn⟩, ⟨unhid j1, unhid i2, i3, unhid i4, unhid hcn2⟩, by (first | trivial | (simp only [push_cast, seval, *]; done)), by first | rfl | exact Heap.le_refl _⟩
    · rintro ⟨ls, c, al, cn⟩ ⟨i1, i2, i3, i4, i5⟩
      simp only at i1 i2 i3 i4 i5
      rw [List.take_length] at i1 i5
      have hfin : (al : Int) = cn := by rw [i4, i5, cov_all i1]
      clear i1 i2 i4 i5
      repeat' (first
    | refine AW_seq_kn fun K hK => ?_
    | refine AW_block ?_
    | (refine does_call rfl rfl ?_; simp only [push_cast, seval, *]; refine ACall.monoP (compare_p ⟨_, _, _⟩ ⟨_, _, _⟩ _) ?_; (try simp only [push_cast, seval, *]))
    | (refine does_call rfl rfl ?_; simp only [push_cast, seval, *]; refine ACall.monoP (sameKey_p ⟨_, _, _⟩ ⟨_, _, _⟩ _) ?_; (try simp only [push_cast, seval, *]))
    | (refine does_call rfl rfl ?_; simp only [push_cast, seval, *]; refine ACall.monoP (wakes05_p _) ?_; (try simp only [push_cast, seval, *]))
    | ((first
      | refine AW_region_draw (id := 5) E0 (fun f => [].contains f) dLLK0 dALK0 mixed (by kernel_rfl) ?_
      | refine AW_region E0 ?_ | refine AW_ret ?_ | refine AW_exit ?_ | refine AW_skip ?_ | unfold retQ); try simp only [push_cast, seval, *])
    | ((first | (apply AW_cond; (case hc => (simp only [push_cast, seval]; rfl))) | (apply ER_guard; (case hb => (simp only [push_cast, seval]; rfl)))); all_goals ((intro hc; first | (exfalso; simp only [push_cast, seval, *] at hc; done) | (exact absurd hc (by decide)) | ((try first | rw [Bool.not_true] at hc | rw [Bool.not_false] at hc); first | (with_reducible replace hc := tTT hc); clear hc | (with_reducible replace hc := tFF hc); clear hc | (have hp := hc; try simp only [decide_eq_true_eq, decide_eq_false_iff_not, bA, bB, bC, bD, bE, bF, bG, bH] at hp))) <;> try simp only [push_cast, seval, *]))
    | (refine Kn.go hK ?_; clear hK K)
    | refine Kn.go (by assumption) ?_
    | (intro n hn; (try simp only [upd_none2, join_none_iff, ite_none, ne_eq] at hn); (try simp only [push_cast, seval, *]))
    | (intro hc)
    | (apply ER_blk; (case hp => rfl); (case hb => (simp only [push_cast, seval]; rfl)); (case hd => (simp only [push_cast, seval]; done)); (case h => (intro hc; simp only [push_cast, seval, *]; rfl)); simp only [push_cast, seval, *])
    | fail)
      exact ⟨_, _, Weak.refl _ _, by first | rfl | simp [*]⟩
end Go.Proofs.Ytfdedgeljijfdaa
