/- TxlogGrows. -/
import Derived.Test.YtdeckjoeggmagaaTG0
import Derived.Test.YtdeckjoeggmagaaTM
import Derived.Test.YtdeckjoeggmagaaWB
namespace Go.Proofs.Ytdeckjoeggmagaa
open Go.RowKit
open Nat renaming reduceEqDiff → nA, reduceLT → nB, reduceLeDiff → nC, reduceAdd → nD, reduceMul → nE, reduceSub → nF, reduceBEq → nG
open Int renaming reduceToNat → iA, reduceLT → iB, reduceLE → iC, reduceEq → iD
open Bool renaming and_eq_true → bA, or_eq_true → bB, or_eq_false_iff → bC, and_eq_false_iff → bD, not_eq_true' → bE, not_eq_false' → bF, not_true → bG, not_false → bH
set_option linter.all false
set_option maxHeartbeats 4000000
attribute [local irreducible] AW Does ACall tE tS tB tZ
def dLTG0 : List En := [(0, false, []), (1, false, []), (2, true, []), (3, false, []), (4, false, []), (5, false, [2]), (6, false, []), (7, false, []), (9, false, []), (8, false, []), (10, false, [])]
def dATG0 : List (List Nat) := [[], [], [1], [], [3], [3, 4], [0, 1, 2, 3, 4, 5], [0, 1, 2, 3, 4, 5, 6], [0, 1, 2, 3, 4, 5, 6, 7], [0, 1, 2, 3, 4, 5, 6], [0, 1, 2, 3, 4, 5, 6, 7, 8, 9]]
attribute [push_cast] dLTG0
def dLTG1 : List En := [(0, false, []), (1, false, []), (2, false, []), (3, false, []), (4, false, []), (5, false, []), (6, false, []), (7, false, []), (8, false, []), (9, false, []), (10, false, []), (11, false, []), (12, false, []), (13, false, []), (14, false, []), (15, false, []), (16, false, []), (17, false, []), (18, false, []), (19, false, []), (20, false, []), (21, false, []), (22, false, []), (23, false, []), (24, false, []), (25, false, []), (26, false, []), (27, false, []), (28, false, []), (29, false, []), (30, false, []), (31, false, []), (32, false, []), (33, false, []), (34, false, []), (35, false, []), (36, false, []), (37, false, []), (38, false, []), (39, false, []), (40, false, []), (41, false, []), (42, false, []), (43, false, []), (44, false, [])]
def dATG1 : List (List Nat) := [[], [0], [0, 1], [0, 1, 2], [0, 1, 2, 3], [0, 1, 2, 3, 4], [0, 1, 2, 3, 4, 5], [0, 1, 2, 3], [0, 1, 2, 3, 7], [0, 1, 2, 3, 7, 8], [0, 1, 2, 3, 4, 5, 6, 7, 8, 9], [0, 1, 2, 3, 4, 5, 6, 7, 8, 9, 10], [0, 1, 2, 3, 4, 5, 6, 7, 8, 9, 10, 11], [0, 1, 2, 3, 4, 5, 6, 7, 8, 9, 10, 11, 12], [0, 1, 2, 3, 4, 5, 6, 7, 8, 9, 10, 11, 12, 13], [0, 1, 2, 3, 4, 5, 6, 7, 8, 9, 10, 11, 12], [0, 1, 2, 3, 4, 5, 6, 7, 8, 9, 10, 11, 12, 15], [0, 1, 2, 3, 4, 5, 6, 7, 8, 9, 10, 11, 12, 15, 16], [0, 1, 2, 3, 4, 5, 6, 7, 8, 9, 10, 11, 12, 13, 14, 15, 16, 17], [0, 1, 2, 3, 4, 5, 6, 7, 8, 9, 10, 11, 12], [0, 1, 2, 3, 4, 5, 6, 7, 8, 9, 10, 11, 12, 19], [0, 1, 2, 3, 4, 5, 6, 7, 8, 9, 10, 11, 12, 13, 14, 15, 16, 17, 18, 19, 20], [0, 1, 2, 3, 4, 5, 6, 7, 8, 9, 10, 11, 12, 13, 14, 15, 16, 17, 18, 19, 20, 21], [0, 1, 2, 3, 4, 5, 6, 7, 8, 9, 10, 11, 12, 13, 14, 15, 16, 17, 18, 19, 20, 21, 22], [0, 1, 2, 3, 4, 5, 6, 7, 8, 9, 10, 11, 12, 13, 14, 15, 16, 17, 18, 19, 20, 21, 22, 23], [0, 1, 2, 3, 4, 5, 6, 7, 8, 9, 10, 11, 12, 13, 14, 15, 16, 17, 18, 19, 20, 21, 22, 23, 24], [0, 1, 2, 3, 4, 5, 6, 7, 8, 9, 10, 11, 12, 13, 14, 15, 16, 17, 18, 19, 20, 21, 22, 23, 24, 25], [0, 1, 2, 3, 4, 5, 6, 7, 8, 9, 10, 11, 12, 13, 14, 15, 16, 17, 18, 19, 20, 21, 22, 23, 24, 25, 26], [0, 1, 2, 3, 4, 5, 6, 7, 8, 9, 10, 11, 12, 13, 14, 15, 16, 17, 18, 19, 20, 21, 22, 23, 24], [0, 1, 2, 3, 4, 5, 6, 7, 8, 9, 10, 11, 12, 13, 14, 15, 16, 17, 18, 19, 20, 21, 22, 23, 24, 28], [0, 1, 2, 3, 4, 5, 6, 7, 8, 9, 10, 11, 12, 13, 14, 15, 16, 17, 18, 19, 20, 21, 22, 23, 24, 28, 29], [0, 1, 2, 3, 4, 5, 6, 7, 8, 9, 10, 11, 12, 13, 14, 15, 16, 17, 18, 19, 20, 21, 22, 23, 24, 25, 26, 27, 28, 29, 30], [0, 1, 2, 3, 4, 5, 6, 7, 8, 9, 10, 11, 12, 13, 14, 15, 16, 17, 18, 19, 20, 21, 22, 23, 24, 25, 26, 27, 28, 29, 30, 31], [0, 1, 2, 3, 4, 5, 6, 7, 8, 9, 10, 11, 12, 13, 14, 15, 16, 17, 18, 19, 20, 21, 22, 23, 24, 25, 26, 27, 28, 29, 30, 31, 32], [0, 1, 2, 3, 4, 5, 6, 7, 8, 9, 10, 11, 12, 13, 14, 15, 16, 17, 18, 19, 20, 21, 22, 23, 24, 25, 26, 27, 28, 29, 30, 31, 32, 33], [0, 1, 2, 3, 4, 5, 6, 7, 8, 9, 10, 11, 12, 13, 14, 15, 16, 17, 18, 19, 20, 21, 22, 23, 24, 25, 26, 27, 28, 29, 30, 31, 32, 33, 34], [0, 1, 2, 3, 4, 5, 6, 7, 8, 9, 10, 11, 12, 13, 14, 15, 16, 17, 18, 19, 20, 21, 22, 23, 24, 25, 26, 27, 28, 29, 30, 31, 32, 33], [0, 1, 2, 3, 4, 5, 6, 7, 8, 9, 10, 11, 12, 13, 14, 15, 16, 17, 18, 19, 20, 21, 22, 23, 24, 25, 26, 27, 28, 29, 30, 31, 32, 33, 36], [0, 1, 2, 3, 4, 5, 6, 7, 8, 9, 10, 11, 12, 13, 14, 15, 16, 17, 18, 19, 20, 21, 22, 23, 24, 25, 26, 27, 28, 29, 30, 31, 32, 33, 36, 37], [0, 1, 2, 3, 4, 5, 6, 7, 8, 9, 10, 11, 12, 13, 14, 15, 16, 17, 18, 19, 20, 21, 22, 23, 24, 25, 26, 27, 28, 29, 30, 31, 32, 33, 34, 35, 36, 37, 38], [0, 1, 2, 3, 4, 5, 6, 7, 8, 9, 10, 11, 12, 13, 14, 15, 16, 17, 18, 19, 20, 21, 22, 23, 24, 25, 26, 27, 28, 29, 30, 31, 32, 33], [0, 1, 2, 3, 4, 5, 6, 7, 8, 9, 10, 11, 12, 13, 14, 15, 16, 17, 18, 19, 20, 21, 22, 23, 24, 25, 26, 27, 28, 29, 30, 31, 32, 33, 40], [0, 1, 2, 3, 4, 5, 6, 7, 8, 9, 10, 11, 12, 13, 14, 15, 16, 17, 18, 19, 20, 21, 22, 23, 24, 25, 26, 27, 28, 29, 30, 31, 32, 33, 34, 35, 36, 37, 38, 39, 40, 41], [0, 1, 2, 3, 4, 5, 6, 7, 8, 9, 10, 11, 12, 13, 14, 15, 16, 17, 18, 19, 20, 21, 22, 23, 24, 25, 26, 27, 28, 29, 30, 31, 32, 33, 34, 35, 36, 37, 38, 39, 40, 41, 42], [0, 1, 2, 3, 4, 5, 6, 7, 8, 9, 10, 11, 12, 13, 14, 15, 16, 17, 18, 19, 20, 21, 22, 23, 24, 25, 26, 27, 28, 29, 30, 31, 32, 33, 34, 35, 36, 37, 38, 39, 40, 41, 42, 43]]
attribute [push_cast] dLTG1
def dLTG2 : List En := [(0, false, []), (1, false, []), (2, false, []), (3, false, []), (4, false, []), (5, false, []), (6, false, []), (7, false, []), (9, false, []), (8, false, []), (10, false, [])]
def dATG2 : List (List Nat) := [[], [], [1], [], [3], [3, 4], [0, 1, 2, 3, 4, 5], [0, 1, 2, 3, 4, 5, 6], [0, 1, 2, 3, 4, 5, 6, 7], [0, 1, 2, 3, 4, 5, 6], [0, 1, 2, 3, 4, 5, 6, 7, 8, 9]]
attribute [push_cast] dLTG2
set_option maxRecDepth 5000

theorem MapI.put {lo : List (ME Nm)} {ck : Nat} {M M' : Mem} {L : List (AV × List Rec)} {W : Nm → List Rec} (h : MapI lo ck M L W) (v : Nm) (q : AV × List Rec) {u : Value} (hM : M.le M') (hu : V M' q.1 u) : MapI (mput v u q.1 ck lo) (mclk v lo ck) M' (putP v q lo L) (upW W v q.2) := by
  refine ⟨mput_putP h.y, fun v' => ?_, h.mw.put hM hu, h.b.put _ _ _⟩
  rw [getP_put h.len]
  unfold upW
  by_cases c : v' = v
  · rw [if_pos c, if_pos c]; rfl
  · rw [if_neg c, if_neg c]; exact h.w v'
def BaseG (H : Heap) (n3 n5 n6 : Nat) (key : Rec) (l : Lg) (lo : List (ME Nm)) (ck : Nat) (M : Mem) : Heap :=
  upd (upd (upd H n3 (.r 36 3 1 [Rec.av key])) n5 (.r 47 3 1 [Lg.av l])) n6 (bm kN lo ck M)
def KeepG (H : Heap) (n3 n5 : Nat) (key : Rec) (l : Lg) : Heap := upd (upd H n3 (.r 36 3 1 [Rec.av key])) n5 (.r 47 3 1 [Lg.av l])
theorem KeepG_le {H : Heap} {n3 n5 n6 : Nat} {key : Rec} {l : Lg} {lo : List (ME Nm)} {ck : Nat} {M : Mem} (h3 : ¬ n6 = n3) (h5 : ¬ n6 = n5) (h : H n6 = none) : Heap.le (KeepG H n3 n5 key l) (BaseG H n3 n5 n6 key l lo ck M) := by
  unfold BaseG KeepG
  refine le_upd_new ?_
  rw [upd_ne h5, upd_ne h3]; exact h
theorem BaseG_none {H : Heap} {n3 n5 n6 : Nat} {key : Rec} {l l' : Lg} {lo lo' : List (ME Nm)} {ck ck' : Nat} {M M' : Mem} {m : Nat} (h : BaseG H n3 n5 n6 key l lo ck M m = none) : BaseG H n3 n5 n6 key l' lo' ck' M' m = none := by
  simp only [BaseG, upd] at h ⊢
  by_cases e : m = n6
  · simp [e] at h
  · by_cases e2 : m = n5
    · subst e2; simp [e] at h
    · by_cases e3 : m = n3
      · subst e3; simp [e, e2] at h
      · simpa [e, e2, e3] using h
theorem BaseG_log {H : Heap} {n3 n5 n6 : Nat} {key : Rec} {l l' : Lg} {lo : List (ME Nm)} {ck : Nat} {M : Mem} (h : ¬ n5 = n6) : upd (BaseG H n3 n5 n6 key l lo ck M) n5 (.r 47 3 1 [Lg.av l']) = BaseG H n3 n5 n6 key l' lo ck M := by
  funext q
  simp only [BaseG, upd]
  by_cases e : q = n5
  · subst e; simp [h]
  · simp [e]
theorem BaseG_put {H : Heap} {n3 n5 n6 n8 n9 : Nat} {key : Rec} {l : Lg} {lo lo' : List (ME Nm)} {ck ck' : Nat} {M M' : Mem} {b8 b9 : Blk} (h8 : ¬ n6 = n8) (h9 : ¬ n6 = n9) :
    upd (upd (upd (BaseG H n3 n5 n6 key l lo ck M) n8 b8) n9 b9) n6 (bm kN lo' ck' M') = upd (upd (BaseG H n3 n5 n6 key l lo' ck' M') n8 b8) n9 b9 := by
  funext q
  simp only [BaseG, upd]
  by_cases e : q = n6
  · subst e; simp [h8, h9]
  · simp [e]
noncomputable def addCl {P : Program} (E : Env P) (f : FuncId) (xs0 : List AV) (r : AV) (h : ACall P f xs0 (fun _ => none) (fun r' _ => r' = r)) : Env P :=
  { E with
    cl := fun g bs => @ite _ (g = f ∧ bs = xs0) (Classical.propDecidable _) (some r) (E.cl g bs)
    cl_ok := fun g bs r' hr => by
      by_cases c : g = f ∧ bs = xs0
      · rw [if_pos c] at hr
        obtain ⟨rfl, rfl⟩ := c
        cases hr
        exact h
      · rw [if_neg c] at hr
        exact E.cl_ok g bs r' hr }
theorem one_env {f1 : FuncId} {a1 : List AV} {r1 : AV} (h1 : Pure Try.prog f1 a1 r1) : ∃ E : Env Try.prog, E.eq = eqTab ∧ E.cl f1 a1 = some r1 :=
  ⟨addCl E0 f1 a1 r1 ((h1 _).mono fun r H h => h.1), rfl, if_pos ⟨rfl, rfl⟩⟩
theorem grow_len {l : Lg} {W : Nm → List Rec} (h : GInv l W) (k : Nat) : ((l.done.take k).flatMap W).length ≤ 400 ∧ ∀ v ∈ l.done, (W v).length ≤ 400 := by
  have h1 := h.ok.size
  have h2 := h.log
  unfold sizeS at h1
  have h3 : l.log.length ≤ 400 := by omega
  rw [← h2] at h3
  constructor
  · have e := List.take_append_drop k l.done
    have : (l.done.flatMap W).length = ((l.done.take k).flatMap W).length + ((l.done.drop k).flatMap W).length := by
      conv => lhs; rw [← e]
      rw [List.flatMap_append, List.length_append]
    omega
  · intro v hv
    obtain ⟨a, b, e⟩ := List.append_of_mem hv
    rw [e, List.flatMap_append, List.flatMap_cons, List.length_append, List.length_append] at h3
    omega
theorem grow_write {l : Lg} {W : Nm → List Rec} (h : GInv l W) (o : Op16) (h2 : 2 ≤ kdS o) (h4 : kdS o < 4) (he : (runR l o).2.2 = 0) : (W o.nm).length ≤ 400 := by
  unfold runR at he
  rw [if_neg (by omega), if_pos h4] at he
  simp only at he
  obtain ⟨-, -, h3, -⟩ := wRes_zero he
  have hb : atB l.txs o.nm = true := by
    cases hB : atB l.txs o.nm
    · unfold writeE at h3; rw [hB] at h3; simp at h3
    · rfl
  obtain ⟨x, hx, hxv⟩ := at_true hb
  have hxm := List.mem_of_getElem? hx
  rw [← hxv, h.tx x hxm]
  have h1 := h.ok.size
  unfold sizeS at h1
  have := rec_bd hxm
  omega
structure StG where
  l : Lg
  W : Nm → List Rec
  lo : List (ME Nm)
  ck : Nat
  M : Mem
  L : List (AV × List Rec)
  G : Heap
theorem info_rcs : (Try.prog.info? 45).bind (·.zero) = some (.slice none 0 0) := by kernel_rfl
theorem zero_rcs (w : World) : (zeroValue 45).run Try.prog w = .ok (.slice none 0 0) w := by
  have h := info_rcs
  cases hi : Try.prog.info? 45 with
  | none => rw [hi] at h; cases h
  | some i =>
    rw [hi] at h
    have h2 : i.zero = some (.slice none 0 0) := h
    simp [zeroValue, typeInfo, hi, h2, Sem.run_bind]
theorem txlogGrows_a (ops : List Op16) (hol : ops.length ≤ maxLen) (hog : ∀ o ∈ ops, o.good) (key : Rec) (H : Heap) :
    ACall Try.prog 9 [.l 6 (ops.map Op16.av), .g (Rec.av key)] H fun r _ => r = .c (.bool true) := by
  have hwk := wakes16_p
  unfold maxLen at hol
  replace hog := Lib.hid hog
  obtain ⟨ks, kk, kv⟩ := key
  have hkv : Rec.av ⟨ks, kk, kv⟩ = [.c (.int .i64 ks), .c (.int .i64 kk), .c (.int .i64 kv)] := rfl
  rw [hkv]
  refine ACall_of' Try.func9 rfl (Ent_of Try.func9 (by kernel_rfl) rfl) (by simp [Try.ntmps9]) ?_; simp only [Try.ntmps9, Try.results9]
  repeat' (first
    | (refine AW_atR (id := 4) ?_)
    | refine AW_seq_kn fun K hK => ?_
    | refine AW_block ?_
    | (refine does_call rfl rfl ?_; simp only [push_cast, seval, *]; refine ACall.monoP (hwk _) ?_; (try simp only [push_cast, seval, *]))
    | (refine does_call rfl rfl ?_; simp only [push_cast, seval, *]; refine ACall.monoP (eqRc_p _ _ (by assumption) (by assumption) _) ?_; (try simp only [push_cast, seval, *]))
    | (refine does_call rfl rfl ?_; simp only [push_cast, seval, *]; refine ACall.monoP (eqNm_p _ _ (by assumption) (by assumption) _) ?_; (try simp only [push_cast, seval, *]))
    | ((first
      | refine AW_region_draw (id := 12) E0 (fun f => [].contains f) dLTG0 dATG0 mixed (by kernel_rfl) ?_
      | refine AW_region_draw (id := 15) E0 (fun f => [].contains f) dLTG1 dATG1 mixed (by kernel_rfl) ?_
      | refine AW_region E0 ?_ | refine AW_ret ?_ | refine AW_exit ?_ | refine AW_skip ?_ | unfold retQ); try simp only [push_cast, seval, *])
    | ((first | (apply AW_cond; (case hc => (simp only [push_cast, seval]; rfl))) | (apply ER_guard; (case hb => (simp only [push_cast, seval]; rfl)))); all_goals ((intro hc; first | (exfalso; simp only [push_cast, seval, *] at hc; done) | (exact absurd hc (by decide)) | ((try first | rw [Bool.not_true] at hc | rw [Bool.not_false] at hc); first | (with_reducible replace hc := tTT hc); clear hc | (with_reducible replace hc := tFF hc); clear hc | (have hp := hc; try simp only [decide_eq_true_eq, decide_eq_false_iff_not, bA, bB, bC, bD, bE, bF, bG, bH] at hp))) <;> try simp only [push_cast, seval, *]))
    | (refine Kn.go hK ?_; clear hK K)
    | refine Kn.go (by assumption) ?_
    | (intro n hn; (try simp only [upd_none2, join_none_iff, ite_none, ne_eq] at hn); (try simp only [push_cast, seval, *]))
    | (intro hc)
    | (apply ER_blk; (case hp => rfl); (case hb => (simp only [push_cast, seval]; rfl)); (case hd => (simp only [push_cast, seval]; done)); (case h => (intro hc; simp only [push_cast, seval, *]; rfl)); simp only [push_cast, seval, *])
    | fail)
  refine ⟨?_⟩
  rename_i n3 h3
  generalize n = n5 at *
  have n53 : ¬ n5 = n3 := hn.1.1
  have n35 : ¬ n3 = n5 := hn.1.2
  have g3n : H n3 = none := h3
  have g5n : H n5 = none := hn.2
  clear hwk hn h3
  refine AW_zero (upd_same _ _ _) ?_
  rw [upd_upd]
  have hz0 : Lg.av zeroL = [.l 5 [], .l 3 [], .l 3 []] := rfl
  rw [hz0]
  repeat' (first
    | (refine AW_atB (id := 5) ?_)
    | refine AW_seq_kn fun K hK => ?_
    | refine AW_block ?_
    | (refine does_makeMap kN rfl ?_)
    | (refine does_call rfl rfl ?_; simp only [push_cast, seval, *]; refine ACall.monoP (eqRc_p _ _ (by assumption) (by assumption) _) ?_; (try simp only [push_cast, seval, *]))
    | (refine does_call rfl rfl ?_; simp only [push_cast, seval, *]; refine ACall.monoP (eqNm_p _ _ (by assumption) (by assumption) _) ?_; (try simp only [push_cast, seval, *]))
    | ((first
      | refine AW_region_draw (id := 12) E0 (fun f => [].contains f) dLTG0 dATG0 mixed (by kernel_rfl) ?_
      | refine AW_region_draw (id := 15) E0 (fun f => [].contains f) dLTG1 dATG1 mixed (by kernel_rfl) ?_
      | refine AW_region E0 ?_ | refine AW_ret ?_ | refine AW_exit ?_ | refine AW_skip ?_ | unfold retQ); try simp only [push_cast, seval, *])
    | ((first | (apply AW_cond; (case hc => (simp only [push_cast, seval]; rfl))) | (apply ER_guard; (case hb => (simp only [push_cast, seval]; rfl)))); all_goals ((intro hc; first | (exfalso; simp only [push_cast, seval, *] at hc; done) | (exact absurd hc (by decide)) | ((try first | rw [Bool.not_true] at hc | rw [Bool.not_false] at hc); first | (with_reducible replace hc := tTT hc); clear hc | (with_reducible replace hc := tFF hc); clear hc | (have hp := hc; try simp only [decide_eq_true_eq, decide_eq_false_iff_not, bA, bB, bC, bD, bE, bF, bG, bH] at hp))) <;> try simp only [push_cast, seval, *]))
    | (refine Kn.go hK ?_; clear hK K)
    | refine Kn.go (by assumption) ?_
    | (intro n hn; (try simp only [upd_none2, join_none_iff, ite_none, ne_eq] at hn); (try simp only [push_cast, seval, *]))
    | (intro hc)
    | (apply ER_blk; (case hp => rfl); (case hb => (simp only [push_cast, seval]; rfl)); (case hd => (simp only [push_cast, seval]; done)); (case h => (intro hc; simp only [push_cast, seval, *]; rfl)); simp only [push_cast, seval, *])
    | fail)
  refine ⟨?_⟩
  generalize n = n6 at *
  have n65 : ¬ n6 = n5 := hn.1.1
  have n56 : ¬ n5 = n6 := hn.1.2
  have n63 : ¬ n6 = n3 := hn.2.1.1
  have n36 : ¬ n3 = n6 := hn.2.1.2
  have g6n : H n6 = none := hn.2.2
  clear hn hz0
  have hB0 : upd (upd (upd H n3 (.r 36 3 1 [[.c (.int .i64 ks), .c (.int .i64 kk), .c (.int .i64 kv)]])) n5 (.r 47 3 1 [[.l 5 [], .l 3 [], .l 3 []]])) n6 (bm kN [] 0 M0) = BaseG H n3 n5 n6 ⟨ks, kk, kv⟩ zeroL [] 0 M0 := rfl
  rw [hB0]
  clear hB0
  refine AW_seqX (σ := Lg) (fun s => LOk s) (fun s => [(3, .p n3 3 0 0), (5, .p n5 3 0 0)]) (fun s => KeepG H n3 n5 ⟨ks, kk, kv⟩ s) ?_ ?_
  · repeat' (first
    | refine AW_seq_kn fun K hK => ?_
    | refine AW_block ?_
    | (refine does_call rfl rfl ?_; simp only [push_cast, seval, *]; refine ACall.monoP (eqRc_p _ _ (by assumption) (by assumption) _) ?_; (try simp only [push_cast, seval, *]))
    | (refine does_call rfl rfl ?_; simp only [push_cast, seval, *]; refine ACall.monoP (eqNm_p _ _ (by assumption) (by assumption) _) ?_; (try simp only [push_cast, seval, *]))
    | ((first
      | refine AW_region_draw (id := 12) E0 (fun f => [].contains f) dLTG0 dATG0 mixed (by kernel_rfl) ?_
      | refine AW_region_draw (id := 15) E0 (fun f => [].contains f) dLTG1 dATG1 mixed (by kernel_rfl) ?_
      | refine AW_region E0 ?_ | refine AW_ret ?_ | refine AW_exit ?_ | refine AW_skip ?_ | unfold retQ); try simp only [push_cast, seval, *])
    | ((first | (apply AW_cond; (case hc => (simp only [push_cast, seval]; rfl))) | (apply ER_guard; (case hb => (simp only [push_cast, seval]; rfl)))); all_goals ((intro hc; first | (exfalso; simp only [push_cast, seval, *] at hc; done) | (exact absurd hc (by decide)) | ((try first | rw [Bool.not_true] at hc | rw [Bool.not_false] at hc); first | (with_reducible replace hc := tTT hc); clear hc | (with_reducible replace hc := tFF hc); clear hc | (have hp := hc; try simp only [decide_eq_true_eq, decide_eq_false_iff_not, bA, bB, bC, bD, bE, bF, bG, bH] at hp))) <;> try simp only [push_cast, seval, *]))
    | (refine Kn.go hK ?_; clear hK K)
    | refine Kn.go (by assumption) ?_
    | (intro n hn; (try simp only [upd_none2, join_none_iff, ite_none, ne_eq] at hn); (try simp only [push_cast, seval, *]))
    | (intro hc)
    | (apply ER_blk; (case hp => rfl); (case hb => (simp only [push_cast, seval]; rfl)); (case hd => (simp only [push_cast, seval]; done)); (case h => (intro hc; simp only [push_cast, seval, *]; rfl)); simp only [push_cast, seval, *])
    | fail)
    refine AW_loopX (σ := StG) ops.length (fun k s => GInv s.l s.W ∧ MapI s.lo s.ck s.M s.L s.W ∧ Chain RM s.L s.G (BaseG H n3 n5 n6 ⟨ks, kk, kv⟩ s.l s.lo s.ck s.M))
      (fun k s => [(3, .p n3 3 0 0), (5, .p n5 3 0 0), (6, .c (.map (some n6))), (21, .l 6 (ops.map Op16.av)), (22, ci ops.length), (23, ci k)]) (fun _ s => s.G) ⟨zeroL, fun _ => [], [], 0, M0, [], BaseG H n3 n5 n6 ⟨ks, kk, kv⟩ zeroL [] 0 M0⟩ ⟨GInv.zero _, MapI.nil _ _, rfl⟩ ?_ ?_ ?_ ?_
    · (first | trivial | (simp only [push_cast, seval, *]; done))
    · exact Heap.le_refl _
    · rintro k ⟨l, W, lo, ck, M, L, G⟩ hk ⟨hG, hM, hch⟩
      simp only at hG hM hch ⊢
      have ho := List.getElem?_eq_getElem (l := ops) hk; generalize ops[k] = o at ho; have hom := List.mem_of_getElem? ho; have hkl : (k : Int) < ops.length := (by omega); have hkw : IntKind.i64.wrap ((k : Int) + 1) = (k : Int) + 1 := wrap_i64 (by omega) (by omega)
      have hgo := unhid hog o hom
      have hfit := fits_of ((lgOk_iff l).2 hG.ok)
      have hru := run_p o ⟨hgo.2.2.1.1, hgo.2.2.2.1⟩ l hfit
      have hst := fun h => grow_step hG o h
      have hwl := fun h2 h4 h => grow_write hG o h2 h4 h
      have hfw := few_p o.recs hgo.2.2.2.1
      have hlr : (o.recs.take 401).length ≤ 401 := by simp; omega
      have hkd : kdS o = (IntKind.u64.wrap o.kind).tmod 9 := rfl
      have hkb := kdS_bd o
      unfold newW at hst
      rw [hkd] at hst hwl hkb
      clear hkd
      generalize o.recs.take 401 = more at *
      generalize runR l o = R at *
      obtain ⟨R1, Rg, Re⟩ := R
      obtain ⟨kd, ⟨ns1, ns2, ns3⟩, nl, rl⟩ := o
      have hav : Op16.av ⟨kd, ⟨ns1, ns2, ns3⟩, nl, rl⟩ = [.c (.int .i64 kd), .c (.int .i64 ns1), .c (.int .i64 ns2), .c (.int .i64 ns3), .l 3 (nl.map Nm.av), .l 3 (rl.map Rec.av)] := rfl
      simp only at hst hwl hkb hfw
      obtain ⟨U, hU⟩ : ∃ U, IntKind.u64.wrap kd = U := ⟨_, rfl⟩
      rw [hU] at hst hwl hkb
      obtain ⟨a, b, c⟩ := l
      obtain ⟨a', b', c'⟩ := R1
      simp only [Lg.av, hav] at hru
      simp only at hst
      clear hgo hfit hom
      by_cases h40 : (k : Int) = 40
      · have e40 : k = 40 := by omega
        have ho40 := ho
        rw [e40] at ho40
        clear e40
        have hl40 : (40 : Int) < ops.length := by omega
        have hok := hG.ok
        have hle := Heap.le_trans (KeepG_le (key := ⟨ks, kk, kv⟩) (l := ⟨a, b, c⟩) (lo := lo) (ck := ck) (M := M) n63 n65 g6n) ((Loc.chain RM_loc L).le hch)
        clear hG hM hch hst
        replace hok := Lib.hid hok
        replace hle := Lib.hid hle
        repeat' (first
    | refine AW_seq_kn fun K hK => ?_
    | refine AW_block ?_
    | (refine does_call rfl rfl ?_; simp only [push_cast, seval, *]; refine ACall.monoP (eqRc_p _ _ (by assumption) (by assumption) _) ?_; (try simp only [push_cast, seval, *]))
    | (refine does_call rfl rfl ?_; simp only [push_cast, seval, *]; refine ACall.monoP (eqNm_p _ _ (by assumption) (by assumption) _) ?_; (try simp only [push_cast, seval, *]))
    | ((first
      | refine AW_region_draw (id := 12) E0 (fun f => [].contains f) dLTG0 dATG0 mixed (by kernel_rfl) ?_
      | refine AW_region_draw (id := 15) E0 (fun f => [].contains f) dLTG1 dATG1 mixed (by kernel_rfl) ?_
      | refine AW_region E0 ?_ | refine AW_ret ?_ | refine AW_exit ?_ | refine AW_skip ?_ | unfold retQ); try simp only [push_cast, seval, *])
    | ((first | (apply AW_cond; (case hc => (simp only [push_cast, seval]; rfl))) | (apply ER_guard; (case hb => (simp only [push_cast, seval]; rfl)))); all_goals ((intro hc; first | (exfalso; simp only [push_cast, seval, *] at hc; done) | (exact absurd hc (by decide)) | ((try first | rw [Bool.not_true] at hc | rw [Bool.not_false] at hc); first | (with_reducible replace hc := tTT hc); clear hc | (with_reducible replace hc := tFF hc); clear hc | (have hp := hc; try simp only [decide_eq_true_eq, decide_eq_false_iff_not, bA, bB, bC, bD, bE, bF, bG, bH] at hp))) <;> try simp only [push_cast, seval, *]))
    | (refine Kn.go hK ?_; clear hK K)
    | refine Kn.go (by assumption) ?_
    | (intro n hn; (try simp only [upd_none2, join_none_iff, ite_none, ne_eq] at hn); (try simp only [push_cast, seval, *]))
    | (intro hc)
    | (apply ER_blk; (case hp => rfl); (case hb => (simp only [push_cast, seval]; rfl)); (case hd => (simp only [push_cast, seval]; done)); (case h => (intro hc; simp only [push_cast, seval, *]; rfl)); simp only [push_cast, seval, *])
    | fail)
        exact ⟨⟨a, b, c⟩, unhid hok, by (first | trivial | (simp only [push_cast, seval, *]; done)), Heap.le_trans (unhid hle) (le_upd_new hn)⟩
      have g5 := (Loc.chain RM_loc L).get hch (show BaseG H n3 n5 n6 ⟨ks, kk, kv⟩ ⟨a, b, c⟩ lo ck M n5 = some (.r 47 3 1 [[.l 5 (a.map Tx.av), .l 3 (b.map Nm.av), .l 3 (c.map Rec.av)]]) by unfold BaseG; simp only [upd_get, n56, n53, if_false, if_true]; rfl)
      have o5 := ne_old g5
      by_cases he : Re = 0
      rotate_left
      · clear hst hwl
        replace hG := Lib.hid hG
        replace hM := Lib.hid hM
        replace hch := Lib.hid hch
        repeat' (first
    | refine AW_seq_kn fun K hK => ?_
    | refine AW_block ?_
    | (refine does_call rfl rfl ?_; simp only [push_cast, seval, *]; refine ACall.monoP (hru _) ?_; (try simp only [push_cast, seval, *]))
    | (refine does_call rfl rfl ?_; simp only [push_cast, seval, *]; refine ACall.monoP (eqRc_p _ _ (by assumption) (by assumption) _) ?_; (try simp only [push_cast, seval, *]))
    | (refine does_call rfl rfl ?_; simp only [push_cast, seval, *]; refine ACall.monoP (eqNm_p _ _ (by assumption) (by assumption) _) ?_; (try simp only [push_cast, seval, *]))
    | ((first
      | refine AW_region_draw (id := 12) E0 (fun f => [].contains f) dLTG0 dATG0 mixed (by kernel_rfl) ?_
      | refine AW_region_draw (id := 15) E0 (fun f => [].contains f) dLTG1 dATG1 mixed (by kernel_rfl) ?_
      | refine AW_region E0 ?_ | refine AW_ret ?_ | refine AW_exit ?_ | refine AW_skip ?_ | unfold retQ); try simp only [push_cast, seval, *])
    | ((first | (apply AW_cond; (case hc => (simp only [push_cast, seval]; rfl))) | (apply ER_guard; (case hb => (simp only [push_cast, seval]; rfl)))); all_goals ((intro hc; first | (exfalso; simp only [push_cast, seval, *] at hc; done) | (exact absurd hc (by decide)) | ((try first | rw [Bool.not_true] at hc | rw [Bool.not_false] at hc); first | (with_reducible replace hc := tTT hc); clear hc | (with_reducible replace hc := tFF hc); clear hc | (have hp := hc; try simp only [decide_eq_true_eq, decide_eq_false_iff_not, bA, bB, bC, bD, bE, bF, bG, bH] at hp))) <;> try simp only [push_cast, seval, *]))
    | (refine Kn.go hK ?_; clear hK K)
    | refine Kn.go (by assumption) ?_
    | (intro n hn; (try simp only [upd_none2, join_none_iff, ite_none, ne_eq] at hn); (try simp only [push_cast, seval, *]))
    | (intro hc)
    | (apply ER_blk; (case hp => rfl); (case hb => (simp only [push_cast, seval]; rfl)); (case hd => (simp only [push_cast, seval]; done)); (case h => (intro hc; simp only [push_cast, seval, *]; rfl)); simp only [push_cast, seval, *])
    | fail)
        exact ⟨⟨⟨a, b, c⟩, W, lo, ck, M, L, G⟩, ⟨unhid hG, unhid hM, unhid hch⟩, by (first | trivial | (simp only [push_cast, seval, *]; done)), by (repeat' (first | exact Heap.le_refl _ | refine hle_upd2 ?_ _ _ | (refine Heap.le_new ?_ ?_; rotate_left 1; focus (first | assumption | (simp only [upd_none2, upd_get, ne_eq, push_cast, seval, *]; done) | (simp [upd_get, *]; done)))))⟩
      subst he
      have hst2 := hst rfl
      have hwl2 := fun h2 h4 => hwl h2 h4 rfl
      clear hst hwl
      replace hG := Lib.hid hG
      replace hM := Lib.hid hM
      replace hch := Lib.hid hch
      replace hst2 := Lib.hid hst2
      replace hwl2 := Lib.hid hwl2
      repeat' (first
    | (refine AW_at (id := 11) ?_)
    | refine AW_seq_kn fun K hK => ?_
    | refine AW_block ?_
    | (refine does_call rfl rfl ?_; simp only [push_cast, seval, *]; refine ACall.monoP (hru _) ?_; (try simp only [push_cast, seval, *]))
    | (refine does_call rfl rfl ?_; simp only [push_cast, seval, *]; refine ACall.monoP (eqRc_p _ _ (by assumption) (by assumption) _) ?_; (try simp only [push_cast, seval, *]))
    | (refine does_call rfl rfl ?_; simp only [push_cast, seval, *]; refine ACall.monoP (eqNm_p _ _ (by assumption) (by assumption) _) ?_; (try simp only [push_cast, seval, *]))
    | ((first
      | refine AW_region_draw (id := 12) E0 (fun f => [].contains f) dLTG0 dATG0 mixed (by kernel_rfl) ?_
      | refine AW_region_draw (id := 15) E0 (fun f => [].contains f) dLTG1 dATG1 mixed (by kernel_rfl) ?_
      | refine AW_region E0 ?_ | refine AW_ret ?_ | refine AW_exit ?_ | refine AW_skip ?_ | unfold retQ); try simp only [push_cast, seval, *])
    | ((first | (apply AW_cond; (case hc => (simp only [push_cast, seval]; rfl))) | (apply ER_guard; (case hb => (simp only [push_cast, seval]; rfl)))); all_goals ((intro hc; first | (exfalso; simp only [push_cast, seval, *] at hc; done) | (exact absurd hc (by decide)) | ((try first | rw [Bool.not_true] at hc | rw [Bool.not_false] at hc); first | (with_reducible replace hc := tTT hc); clear hc | (with_reducible replace hc := tFF hc); clear hc | (have hp := hc; try simp only [decide_eq_true_eq, decide_eq_false_iff_not, bA, bB, bC, bD, bE, bF, bG, bH] at hp))) <;> try simp only [push_cast, seval, *]))
    | (refine Kn.go hK ?_; clear hK K)
    | refine Kn.go (by assumption) ?_
    | (intro n hn; (try simp only [upd_none2, join_none_iff, ite_none, ne_eq] at hn); (try simp only [push_cast, seval, *]))
    | (intro hc)
    | (apply ER_blk; (case hp => rfl); (case hb => (simp only [push_cast, seval]; rfl)); (case hd => (simp only [push_cast, seval]; done)); (case h => (intro hc; simp only [push_cast, seval, *]; rfl)); simp only [push_cast, seval, *])
    | fail)
      refine ⟨?_⟩
      rename_i n8 h8
      generalize n = n9 at *
      have n98 : ¬ n9 = n8 := hn.1.1
      have n89 : ¬ n8 = n9 := hn.1.2
      obtain ⟨b8, hb8⟩ : ∃ b8 : Blk, b8 = .r 51 6 1 [[.c (.int .i64 kd), .c (.int .i64 ns1), .c (.int .i64 ns2), .c (.int .i64 ns3), .l 3 (nl.map Nm.av), .l 3 (rl.map Rec.av)]] := ⟨_, rfl⟩
      obtain ⟨b9, hb9⟩ : ∃ b9 : Blk, b9 = .r 47 3 1 [[.l 5 (a'.map Tx.av), .l 3 (b'.map Nm.av), .l 3 (c'.map Rec.av)]] := ⟨_, rfl⟩
      obtain ⟨B, hB⟩ : ∃ B, B = upd (upd G n8 b8) n9 b9 := ⟨_, rfl⟩
      have hcB : Chain RM L B (upd (upd (BaseG H n3 n5 n6 ⟨ks, kk, kv⟩ ⟨a, b, c⟩ lo ck M) n8 b8) n9 b9) := by
        rw [hB]; exact (Loc.chain RM_loc L).new ((Loc.chain RM_loc L).new (unhid hch) h8 _) (by rw [upd_ne n98]; exact hn.2) _
      have q8 : BaseG H n3 n5 n6 ⟨ks, kk, kv⟩ ⟨a, b, c⟩ lo ck M n8 = none := (Loc.chain RM_loc L).old (unhid hch) h8
      have q9 : BaseG H n3 n5 n6 ⟨ks, kk, kv⟩ ⟨a, b, c⟩ lo ck M n9 = none := (Loc.chain RM_loc L).old (unhid hch) hn.2
      have q6 : BaseG H n3 n5 n6 ⟨ks, kk, kv⟩ ⟨a, b, c⟩ lo ck M n6 = some (bm kN lo ck M) := upd_same _ _ _
      have n68 : ¬ n6 = n8 := fun h => by rw [← h, q6] at q8; cases q8
      have n69 : ¬ n6 = n9 := fun h => by rw [← h, q6] at q9; cases q9
      have b6 := (Loc.chain RM_loc L).get hcB (show _ = some (bm kN lo ck M) by rw [upd_ne n69, upd_ne n68]; exact q6)
      have b8' := (Loc.chain RM_loc L).get hcB (show _ = some b8 by rw [upd_ne n89]; exact upd_same _ _ _)
      have b9' := (Loc.chain RM_loc L).get hcB (upd_same _ n9 b9)
      rw [hb8] at b8'
      rw [hb9] at b9'
      rw [hb8, hb9] at hB
      rw [← hB]
      clear hB g5 o5 hn h8 hch hru
      replace hcB := Lib.hid hcB
      replace hb8 := Lib.hid hb8
      replace hb9 := Lib.hid hb9
      replace q6 := Lib.hid q6
      replace q8 := Lib.hid q8
      replace q9 := Lib.hid q9
      refine AW_seq2X (σ := List (ME Nm) × Nat × Mem × List (AV × List Rec) × Heap) (fun s => MapI s.1 s.2.1 s.2.2.1 s.2.2.2.1 (if U.tmod 9 < 2 then upW W ⟨ns1, ns2, ns3⟩ [] else if U.tmod 9 < 4 then upW W ⟨ns1, ns2, ns3⟩ (W ⟨ns1, ns2, ns3⟩ ++ more) else W) ∧ Chain RM s.2.2.2.1 s.2.2.2.2 (upd (upd (BaseG H n3 n5 n6 ⟨ks, kk, kv⟩ ⟨a, b, c⟩ s.1 s.2.1 s.2.2.1) n8 b8) n9 b9))
        (fun _ => [(3, .p n3 3 0 0), (5, .p n5 3 0 0), (6, .c (.map (some n6))), (9, .p n9 3 0 0), (21, .l 6 (ops.map Op16.av)), (22, ci ops.length), (23, ci k)]) (fun s => s.2.2.2.2) (fun K hK => ?_) ?_
      · have hcs : U.tmod 9 < 2 ∨ (¬ U.tmod 9 < 2 ∧ U.tmod 9 < 4) ∨ (¬ U.tmod 9 < 2 ∧ ¬ U.tmod 9 < 4) := by omega
        obtain ⟨y0, S, hy0, hS, hS1, hS2⟩ := (unhid hM).get ⟨ns1, ns2, ns3⟩
        have hmw := (unhid hM).mw
        have hbs := (unhid hM).b
        obtain ⟨H1, r1, r2⟩ := hS1 _ _ (unhid hcB)
        have e6 : upd (upd (BaseG H n3 n5 n6 ⟨ks, kk, kv⟩ ⟨a, b, c⟩ lo ck M) n8 b8) n9 b9 n6 = some (bm kN lo ck M) := by rw [upd_ne n69, upd_ne n68]; exact unhid q6
        have d6 := hS.get r2 e6
        have l1 := (RM_loc _ _).le r1
        have hEU := tU77
        have hIs : IsK (.g [.c (.int .i64 ns1), .c (.int .i64 ns2), .c (.int .i64 ns3)]) (kN ⟨ns1, ns2, ns3⟩) := IsK.g (u3 ⟨ns1, ns2, ns3⟩)
        replace hIs := Lib.hid hIs
        replace hmw := Lib.hid hmw
        replace hbs := Lib.hid hbs
        replace r1 := Lib.hid r1
        replace r2 := Lib.hid r2
        replace d6 := Lib.hid d6
        replace e6 := Lib.hid e6
        replace l1 := Lib.hid l1
        replace hy0 := Lib.hid hy0
        replace hS := Lib.hid hS
        replace hS1 := Lib.hid hS1
        replace hS2 := Lib.hid hS2
        rcases hcs with hkk | ⟨hk2, hkk⟩ | ⟨hk2, hk4⟩
        · clear hfw hwl2 hst2
          have hcs2 : U.tmod 9 = 0 ∨ U.tmod 9 = 1 := by omega
          rcases hcs2 with hkk | hkk
          all_goals
            repeat' (first
    | refine AW_seq_kn fun K hK => ?_
    | refine AW_block ?_
    | (refine does_mapUpdateC (n := n6) (enc := kN) (l := lo) (c := ck) (M := M) (k := ⟨ns1, ns2, ns3⟩) (v := .slice none 0 0) kkN (.inl rfl) (by simp only [push_cast, seval, *]) (by simp only [push_cast, seval, *]) hEU (by simp only [push_cast, seval, *]; exact unhid hIs) (by simp only [push_cast, seval, *]; exact IsK.c _) ?_; (try simp only [push_cast, seval, *]))
    | (refine does_call rfl rfl ?_; simp only [push_cast, seval, *]; refine ACall.monoP (eqRc_p _ _ (by assumption) (by assumption) _) ?_; (try simp only [push_cast, seval, *]))
    | (refine does_call rfl rfl ?_; simp only [push_cast, seval, *]; refine ACall.monoP (eqNm_p _ _ (by assumption) (by assumption) _) ?_; (try simp only [push_cast, seval, *]))
    | ((first
      | refine AW_region_draw (id := 12) E0 (fun f => [].contains f) dLTG0 dATG0 mixed (by kernel_rfl) ?_
      | refine AW_region_draw (id := 15) E0 (fun f => [].contains f) dLTG1 dATG1 mixed (by kernel_rfl) ?_
      | refine AW_region E0 ?_ | refine AW_ret ?_ | refine AW_exit ?_ | refine AW_skip ?_ | unfold retQ); try simp only [push_cast, seval, *])
    | ((first | (apply AW_cond; (case hc => (simp only [push_cast, seval]; rfl))) | (apply ER_guard; (case hb => (simp only [push_cast, seval]; rfl)))); all_goals ((intro hc; first | (exfalso; simp only [push_cast, seval, *] at hc; done) | (exact absurd hc (by decide)) | ((try first | rw [Bool.not_true] at hc | rw [Bool.not_false] at hc); first | (with_reducible replace hc := tTT hc); clear hc | (with_reducible replace hc := tFF hc); clear hc | (have hp := hc; try simp only [decide_eq_true_eq, decide_eq_false_iff_not, bA, bB, bC, bD, bE, bF, bG, bH] at hp))) <;> try simp only [push_cast, seval, *]))
    | (refine Kn.go hK ?_; clear hK K)
    | refine Kn.go (by assumption) ?_
    | (intro n hn; (try simp only [upd_none2, join_none_iff, ite_none, ne_eq] at hn); (try simp only [push_cast, seval, *]))
    | (intro hc)
    | (apply ER_blk; (case hp => rfl); (case hb => (simp only [push_cast, seval]; rfl)); (case hd => (simp only [push_cast, seval]; done)); (case h => (intro hc; simp only [push_cast, seval, *]; rfl)); simp only [push_cast, seval, *])
    | fail)
            refine ⟨(mput ⟨ns1, ns2, ns3⟩ (.slice none 0 0) (.c (.slice none 0 0)) ck lo, mclk ⟨ns1, ns2, ns3⟩ lo ck, M, putP ⟨ns1, ns2, ns3⟩ (.c (.slice none 0 0), []) lo L, upd H1 n6 (bm kN (mput ⟨ns1, ns2, ns3⟩ (.slice none 0 0) (.c (.slice none 0 0)) ck lo) (mclk ⟨ns1, ns2, ns3⟩ lo ck) M)), ⟨?_, ?_⟩, by (first | trivial | (simp only [push_cast, seval, *]; done)), hle_upd2 (unhid l1) _ _⟩
            · first | (rw [if_pos (by omega)]; exact (unhid hM).put ⟨ns1, ns2, ns3⟩ (.c (.slice none 0 0), []) (Mem.le.refl _) (.c _)) | exact (unhid hM).put ⟨ns1, ns2, ns3⟩ (.c (.slice none 0 0), []) (Mem.le.refl _) (.c _)
            · have := (unhid hS).turn (unhid r2) (unhid e6) (bm kN (mput ⟨ns1, ns2, ns3⟩ (.slice none 0 0) (.c (.slice none 0 0)) ck lo) (mclk ⟨ns1, ns2, ns3⟩ lo ck) M)
              rw [BaseG_put n68 n69] at this
              exact unhid hS2 (.c (.slice none 0 0), []) _ _ _ (OwnL.nil _ _ _) this
        · have hcs2 : U.tmod 9 = 2 ∨ U.tmod 9 = 3 := by omega
          have hlw := unhid hwl2 (by omega) hkk
          obtain ⟨st, hst⟩ : ∃ st, ((mget (⟨ns1, ns2, ns3⟩ : Nm) lo).map ME.b).getD ck = st := ⟨_, rfl⟩
          obtain ⟨bE, hbE⟩ : ∃ b, bm kN (ment ⟨ns1, ns2, ns3⟩ (.slice none 0 0) (.c (.slice none 0 0)) ck lo) (mclk ⟨ns1, ns2, ns3⟩ lo ck) M = b := ⟨_, rfl⟩
          have hown := (RM_loc _ _).turn (unhid r1) (unhid d6) bE
          unfold RM at hown
          have hown6 := (Loc.own _ _ _ _).get hown (upd_same _ n6 bE)
          obtain ⟨EF, hE1, hE2⟩ := one_env hfw
          have ycs := hown.cs
          have yone := hown.one
          replace hst := Lib.hid hst
          replace hbE := Lib.hid hbE
          replace hown := Lib.hid hown
          replace hlw := Lib.hid hlw
          clear hwl2 hst2
          have hEt := tE45
          have hSt := tS36
          have hBt := tB36
          have hZt := tZ36
          rcases hcs2 with hkk | hkk
          all_goals
            repeat' (first
    | refine AW_seq_kn fun K hK => ?_
    | refine AW_block ?_
    | (refine does_mapEntryV (n := n6) (enc := kN) (l := lo) (c := ck) (M := M) (k := ⟨ns1, ns2, ns3⟩) (z := .slice none 0 0) (zA := .c (.slice none 0 0)) kkN rfl (by simp only [push_cast, seval, *]) (by simp only [push_cast, seval, *]) (unhid hmw) hEU zero_rcs (fun _ => .c _) (by simp only [push_cast, seval, *]; exact unhid hIs) (unhid hy0) (unhid hst) (unhid hbE) ?_; (try simp only [push_cast, seval, *]))
    | (refine does_call rfl rfl ?_; simp only [push_cast, seval, *]; refine ACall.monoP (eqRc_p _ _ (by assumption) (by assumption) _) ?_; (try simp only [push_cast, seval, *]))
    | (refine does_call rfl rfl ?_; simp only [push_cast, seval, *]; refine ACall.monoP (eqNm_p _ _ (by assumption) (by assumption) _) ?_; (try simp only [push_cast, seval, *]))
    | ((first
      | refine AW_region_draw (id := 12) EF (fun f => [41].contains f) dLTG2 dATG2 mixed (by kernel_rfl) ?_
      | refine AW_region_draw (id := 15) EF (fun f => [41].contains f) dLTG1 dATG1 mixed (by kernel_rfl) ?_
      | refine AW_region EF ?_ | refine AW_ret ?_ | refine AW_exit ?_ | refine AW_skip ?_ | unfold retQ); try simp only [push_cast, seval, *])
    | ((first | (apply AW_cond; (case hc => (simp only [push_cast, seval]; rfl))) | (apply ER_guard; (case hb => (simp only [push_cast, seval]; rfl)))); all_goals ((intro hc; first | (exfalso; simp only [push_cast, seval, *] at hc; done) | (exact absurd hc (by decide)) | ((try first | rw [Bool.not_true] at hc | rw [Bool.not_false] at hc); first | (with_reducible replace hc := tTT hc); clear hc | (with_reducible replace hc := tFF hc); clear hc | (have hp := hc; try simp only [decide_eq_true_eq, decide_eq_false_iff_not, bA, bB, bC, bD, bE, bF, bG, bH] at hp))) <;> try simp only [push_cast, seval, *]))
    | (refine Kn.go hK ?_; clear hK K)
    | refine Kn.go (by assumption) ?_
    | (intro n hn; (try simp only [upd_none2, join_none_iff, ite_none, ne_eq] at hn); (try simp only [push_cast, seval, *]))
    | (intro hc)
    | (apply ER_blk; (case hp => rfl); (case hb => (simp only [push_cast, seval]; rfl)); (case hd => (simp only [push_cast, seval]; done)); (case h => (intro hc; simp only [push_cast, seval, *]; rfl)); simp only [push_cast, seval, *])
    | fail)
            refine does_appL (news := more.map Rec.av) rfl rfl rfl (unhid hown) hEt hSt hBt hZt rfl (by decide) ?_ ?_ ?_
            · simp only [List.length_map, maxLen]; have := unhid hlw; omega
            · simp only [List.length_map]; have := unhid hlw; omega
            intro z Hz hz
            have hz6 := hz.get (upd_same _ n6 bE)
            have hz8 := hz.get (show upd H1 n6 bE n8 = some (.r 51 6 1 [[.c (.int .i64 kd), .c (.int .i64 ns1), .c (.int .i64 ns2), .c (.int .i64 ns3), .l 3 (nl.map Nm.av), .l 3 (rl.map Rec.av)]]) by rw [upd_ne (fun h => n68 h.symm), (unhid hS).get (unhid r2) (show _ = some b8 by rw [upd_ne n89]; exact upd_same _ _ _)]; exact congrArg some (unhid hb8))
            have n86 : ¬ n8 = n6 := fun h => n68 h.symm
            have zcs := hz.cs
            have zone := hz.one
            replace hz := Lib.hid hz
            (try simp only [push_cast, seval, *])
            repeat' (first
    | refine AW_seq_kn fun K hK => ?_
    | refine AW_block ?_
    | (refine does_entryStoreV (enc := kN) (n := n6) (l := lo) (c := ck) (M := M) (k := ⟨ns1, ns2, ns3⟩) (z := .slice none 0 0) (zA := .c (.slice none 0 0)) (b' := bE) (unhid hbs) rfl (by simp only [push_cast, seval, *]) (by simp only [push_cast, seval, *]) (unhid hst) (unhid hbE) hz6 ?_; intro u2 M2 hM2 hV2; (try simp only [push_cast, seval] at hV2); replace hM2 := Lib.hid hM2; replace hV2 := Lib.hid hV2; (try simp only [push_cast, seval, *]))
    | (refine does_call rfl rfl ?_; simp only [push_cast, seval, *]; refine ACall.monoP (eqRc_p _ _ (by assumption) (by assumption) _) ?_; (try simp only [push_cast, seval, *]))
    | (refine does_call rfl rfl ?_; simp only [push_cast, seval, *]; refine ACall.monoP (eqNm_p _ _ (by assumption) (by assumption) _) ?_; (try simp only [push_cast, seval, *]))
    | ((first
      | refine AW_region_draw (id := 12) EF (fun f => [41].contains f) dLTG2 dATG2 mixed (by kernel_rfl) ?_
      | refine AW_region_draw (id := 15) EF (fun f => [41].contains f) dLTG1 dATG1 mixed (by kernel_rfl) ?_
      | refine AW_region EF ?_ | refine AW_ret ?_ | refine AW_exit ?_ | refine AW_skip ?_ | unfold retQ); try simp only [push_cast, seval, *])
    | ((first | (apply AW_cond; (case hc => (simp only [push_cast, seval]; rfl))) | (apply ER_guard; (case hb => (simp only [push_cast, seval]; rfl)))); all_goals ((intro hc; first | (exfalso; simp only [push_cast, seval, *] at hc; done) | (exact absurd hc (by decide)) | ((try first | rw [Bool.not_true] at hc | rw [Bool.not_false] at hc); first | (with_reducible replace hc := tTT hc); clear hc | (with_reducible replace hc := tFF hc); clear hc | (have hp := hc; try simp only [decide_eq_true_eq, decide_eq_false_iff_not, bA, bB, bC, bD, bE, bF, bG, bH] at hp))) <;> try simp only [push_cast, seval, *]))
    | (refine Kn.go hK ?_; clear hK K)
    | refine Kn.go (by assumption) ?_
    | (intro n hn; (try simp only [upd_none2, join_none_iff, ite_none, ne_eq] at hn); (try simp only [push_cast, seval, *]))
    | (intro hc)
    | (apply ER_blk; (case hp => rfl); (case hb => (simp only [push_cast, seval]; rfl)); (case hd => (simp only [push_cast, seval]; done)); (case h => (intro hc; simp only [push_cast, seval, *]; rfl)); simp only [push_cast, seval, *])
    | fail)
            have hmp := (unhid hM).put ⟨ns1, ns2, ns3⟩ (z, W ⟨ns1, ns2, ns3⟩ ++ more) (unhid hM2) (unhid hV2)
            refine ⟨(mput ⟨ns1, ns2, ns3⟩ u2 z ck lo, mclk ⟨ns1, ns2, ns3⟩ lo ck, M2, putP ⟨ns1, ns2, ns3⟩ (z, W ⟨ns1, ns2, ns3⟩ ++ more) lo L, upd Hz n6 (bm kN (mput ⟨ns1, ns2, ns3⟩ u2 z ck lo) (mclk ⟨ns1, ns2, ns3⟩ lo ck) M2)), ⟨?_, ?_⟩, by (first | trivial | (simp only [push_cast, seval, *]; done)), Heap.le_refl _⟩
            · first | (rw [if_neg hk2, if_pos (by omega)]; exact hmp) | exact hmp
            · have h1 := (unhid hS).turn (unhid r2) (unhid e6) (bm kN (mput ⟨ns1, ns2, ns3⟩ u2 z ck lo) (mclk ⟨ns1, ns2, ns3⟩ lo ck) M2)
              rw [BaseG_put n68 n69] at h1
              have h2 := (Loc.own _ _ _ _).turn (unhid hz) (upd_same _ n6 bE) (bm kN (mput ⟨ns1, ns2, ns3⟩ u2 z ck lo) (mclk ⟨ns1, ns2, ns3⟩ lo ck) M2)
              rw [upd_upd, ← List.map_append] at h2
              exact unhid hS2 (z, W ⟨ns1, ns2, ns3⟩ ++ more) _ _ _ h2 h1
        · have kn2 : ¬ U.tmod 9 = 2 := by omega
          have kn3 : ¬ U.tmod 9 = 3 := by omega
          clear hfw hwl2 hst2 hy0 hS hS1 hS2 r1 r2 d6 e6 l1
          repeat' (first
    | refine AW_seq_kn fun K hK => ?_
    | refine AW_block ?_
    | (refine does_call rfl rfl ?_; simp only [push_cast, seval, *]; refine ACall.monoP (eqRc_p _ _ (by assumption) (by assumption) _) ?_; (try simp only [push_cast, seval, *]))
    | (refine does_call rfl rfl ?_; simp only [push_cast, seval, *]; refine ACall.monoP (eqNm_p _ _ (by assumption) (by assumption) _) ?_; (try simp only [push_cast, seval, *]))
    | ((first
      | refine AW_region_draw (id := 12) E0 (fun f => [].contains f) dLTG0 dATG0 mixed (by kernel_rfl) ?_
      | refine AW_region_draw (id := 15) E0 (fun f => [].contains f) dLTG1 dATG1 mixed (by kernel_rfl) ?_
      | refine AW_region E0 ?_ | refine AW_ret ?_ | refine AW_exit ?_ | refine AW_skip ?_ | unfold retQ); try simp only [push_cast, seval, *])
    | ((first | (apply AW_cond; (case hc => (simp only [push_cast, seval]; rfl))) | (apply ER_guard; (case hb => (simp only [push_cast, seval]; rfl)))); all_goals ((intro hc; first | (exfalso; simp only [push_cast, seval, *] at hc; done) | (exact absurd hc (by decide)) | ((try first | rw [Bool.not_true] at hc | rw [Bool.not_false] at hc); first | (with_reducible replace hc := tTT hc); clear hc | (with_reducible replace hc := tFF hc); clear hc | (have hp := hc; try simp only [decide_eq_true_eq, decide_eq_false_iff_not, bA, bB, bC, bD, bE, bF, bG, bH] at hp))) <;> try simp only [push_cast, seval, *]))
    | (refine Kn.go hK ?_; clear hK K)
    | refine Kn.go (by assumption) ?_
    | (intro n hn; (try simp only [upd_none2, join_none_iff, ite_none, ne_eq] at hn); (try simp only [push_cast, seval, *]))
    | (intro hc)
    | (apply ER_blk; (case hp => rfl); (case hb => (simp only [push_cast, seval]; rfl)); (case hd => (simp only [push_cast, seval]; done)); (case h => (intro hc; simp only [push_cast, seval, *]; rfl)); simp only [push_cast, seval, *])
    | fail)
          refine ⟨(lo, ck, M, L, B), ⟨?_, unhid hcB⟩, by (first | trivial | (simp only [push_cast, seval, *]; done)), Heap.le_refl _⟩
          first | (rw [if_neg hk2, if_neg hk4]; exact unhid hM) | exact unhid hM
      · rintro ⟨lo2, ck2, M2, L2, G2⟩ ⟨hM2, hc2⟩
        simp only at hM2 hc2 ⊢
        have hst3 := unhid hst2
        generalize (if U.tmod 9 < 2 then upW W ⟨ns1, ns2, ns3⟩ [] else if U.tmod 9 < 4 then upW W ⟨ns1, ns2, ns3⟩ (W ⟨ns1, ns2, ns3⟩ ++ more) else W) = W2 at hM2 hst3
        obtain ⟨hG2, p1, p2⟩ := hst3
        have hfit2 := fits_of ((lgOk_iff _).2 hG2.ok)
        have hok2 := (lgOk_iff _).2 hG2.ok
        have hck := Check_p ⟨a', b', c'⟩ hfit2
        rw [hok2] at hck
        simp only [if_true, Lg.av] at hck
        have hbd := lgOk_bd hok2
        simp only at hbd
        have et1 : (c'.map Rec.av).take c.length = c.map Rec.av := by rw [← List.map_take, ← List.prefix_iff_eq_take.1 p1]
        have et2 : (b'.map Nm.av).take b.length = b.map Nm.av := by rw [← List.map_take, ← List.prefix_iff_eq_take.1 p2]
        have hl1 := p1.length_le
        have hl2 := p2.length_le
        have hl1i : ¬ (c'.length : Int) < c.length := by omega
        have hl2i : ¬ (b'.length : Int) < b.length := by omega
        have hl1j : (c.length : Int) ≤ c'.length := by omega
        have hl2j : (b.length : Int) ≤ b'.length := by omega
        have hq1 := eqRc_p c c (by unfold maxLen; omega) (by unfold maxLen; omega)
        have hq2 := eqNm_p b b (by unfold maxLen; omega) (by unfold maxLen; omega)
        have hq3 := eqRc_p c' c' (by unfold maxLen; omega) (by unfold maxLen; omega)
        rw [decide_eq_true rfl] at hq1 hq2 hq3
        have hst4 := fun v => State_p ⟨a', b', c'⟩ hfit2 v
        have hst5 := fun v hv => state_done hG2.ok (v := v) hv
        have hgl := grow_len hG2
        have g5 := (Loc.chain RM_loc L2).get hc2 (show _ = some (.r 47 3 1 [[.l 5 (a.map Tx.av), .l 3 (b.map Nm.av), .l 3 (c.map Rec.av)]]) by rw [upd_ne (fun h => by have q := unhid q9; rw [← h] at q; unfold BaseG at q; rw [upd_ne n56, upd_same] at q; cases q), upd_ne (fun h => by have q := unhid q8; rw [← h] at q; unfold BaseG at q; rw [upd_ne n56, upd_same] at q; cases q)]; unfold BaseG; rw [upd_ne n56, upd_same]; rfl)
        have g6 := (Loc.chain RM_loc L2).get hc2 (show _ = some (bm kN lo2 ck2 M2) by rw [upd_ne n69, upd_ne n68]; exact upd_same _ _ _)
        have g9 := (Loc.chain RM_loc L2).get hc2 (upd_same _ n9 b9)
        rw [unhid hb9] at g9
        have hb300 : b'.length ≤ 300 := hbd.2.1
        clear b6 b8' b9' hM hG hcB hfw hwl2 hst2 hok2 hfit2 p1 p2 hbd
        replace hM2 := Lib.hid hM2
        replace hc2 := Lib.hid hc2
        replace hG2 := Lib.hid hG2
        replace hst4 := Lib.hid hst4
        replace hst5 := Lib.hid hst5
        replace hgl := Lib.hid hgl
        have hEU := tU77
        have hEt := tE45
        have hSt := tS36
        have hBt := tB36
        have hZt := tZ36
        repeat' (first
    | refine AW_seq_kn fun K hK => ?_
    | refine AW_block ?_
    | (refine does_call rfl rfl ?_; simp only [push_cast, seval, *]; refine ACall.monoP (hck _) ?_; (try simp only [push_cast, seval, *]))
    | (refine does_call rfl rfl ?_; simp only [push_cast, seval, *]; refine ACall.monoP (hq1 _) ?_; (try simp only [push_cast, seval, *]))
    | (refine does_call rfl rfl ?_; simp only [push_cast, seval, *]; refine ACall.monoP (hq2 _) ?_; (try simp only [push_cast, seval, *]))
    | (refine does_call rfl rfl ?_; simp only [push_cast, seval, *]; refine ACall.monoP (eqRc_p _ _ (by assumption) (by assumption) _) ?_; (try simp only [push_cast, seval, *]))
    | (refine does_call rfl rfl ?_; simp only [push_cast, seval, *]; refine ACall.monoP (eqNm_p _ _ (by assumption) (by assumption) _) ?_; (try simp only [push_cast, seval, *]))
    | ((first
      | refine AW_region_draw (id := 12) E0 (fun f => [].contains f) dLTG0 dATG0 mixed (by kernel_rfl) ?_
      | refine AW_region_draw (id := 15) E0 (fun f => [].contains f) dLTG1 dATG1 mixed (by kernel_rfl) ?_
      | refine AW_region E0 ?_ | refine AW_ret ?_ | refine AW_exit ?_ | refine AW_skip ?_ | unfold retQ); try simp only [push_cast, seval, *])
    | ((first | (apply AW_cond; (case hc => (simp only [push_cast, seval]; rfl))) | (apply ER_guard; (case hb => (simp only [push_cast, seval]; rfl)))); all_goals ((intro hc; first | (exfalso; simp only [push_cast, seval, *] at hc; done) | (exact absurd hc (by decide)) | ((try first | rw [Bool.not_true] at hc | rw [Bool.not_false] at hc); first | (with_reducible replace hc := tTT hc); clear hc | (with_reducible replace hc := tFF hc); clear hc | (have hp := hc; try simp only [decide_eq_true_eq, decide_eq_false_iff_not, bA, bB, bC, bD, bE, bF, bG, bH] at hp))) <;> try simp only [push_cast, seval, *]))
    | (refine Kn.go hK ?_; clear hK K)
    | refine Kn.go (by assumption) ?_
    | (intro n hn; (try simp only [upd_none2, join_none_iff, ite_none, ne_eq] at hn); (try simp only [push_cast, seval, *]))
    | (intro hc)
    | (apply ER_blk; (case hp => rfl); (case hb => (simp only [push_cast, seval]; rfl)); (case hd => (simp only [push_cast, seval]; done)); (case h => (intro hc; simp only [push_cast, seval, *]; rfl)); simp only [push_cast, seval, *])
    | fail)
        refine AW_loopX (σ := AV × Heap) b'.length (fun j s => OwnL s.2 s.1 36 3 (((b'.take j).flatMap W2).map Rec.av) G2)
          (fun j s => [(3, .p n3 3 0 0), (5, .p n5 3 0 0), (6, .c (.map (some n6))), (9, .p n9 3 0 0), (12, s.1), (21, .l 6 (ops.map Op16.av)), (22, ci ops.length), (23, ci k), (115, .l 3 (b'.map Nm.av)), (116, ci b'.length), (117, ci j)]) (fun _ s => s.2) (.c (.slice none 0 0), G2) (OwnL.nil _ _ _) ?_ ?_ ?_ ?_
        · (first | trivial | (simp only [push_cast, seval, *]; done))
        · exact Heap.le_refl _
        · rintro j ⟨z, Hs⟩ hj hoz
          simp only at hoz ⊢
          have hv := List.getElem?_eq_getElem (l := b') hj; generalize b'[j] = v at hv; have hvm := List.mem_of_getElem? hv; have hjl : (j : Int) < b'.length := (by omega); have hjw : IntKind.i64.wrap ((j : Int) + 1) = (j : Int) + 1 := wrap_i64 (by omega) (by omega)
          have k5 := hoz.get g5
          have k6 := hoz.get g6
          have k9 := hoz.get g9
          have o6 := ne_old k6
          have o9 := ne_old k9
          have zcs := hoz.cs
          have zone := hoz.one
          have hs3 := unhid hst5 v hvm
          have hs4 := unhid hst4 v
          rw [hs3] at hs4
          obtain ⟨hg1, hg2⟩ := unhid hgl j
          have hg3 := hg2 v hvm
          obtain ⟨y0, S, hy0, hS, hS1, hS2⟩ := (unhid hM2).get v
          have hmw := (unhid hM2).mw
          obtain ⟨v1, v2, v3⟩ := v
          have hnv : Nm.av ⟨v1, v2, v3⟩ = [.c (.int .i64 v1), .c (.int .i64 v2), .c (.int .i64 v3)] := rfl
          have hIs : IsK (.g [.c (.int .i64 v1), .c (.int .i64 v2), .c (.int .i64 v3)]) (kN ⟨v1, v2, v3⟩) := IsK.g (u3 ⟨v1, v2, v3⟩)
          simp only [hnv, Lg.av] at hs4
          have hfm : (b'.take (j + 1)).flatMap W2 = (b'.take j).flatMap W2 ++ W2 ⟨v1, v2, v3⟩ := by rw [take_snoc hv]; simp
          replace hfm := Lib.hid hfm
          replace hIs := Lib.hid hIs
          replace hmw := Lib.hid hmw
          replace hy0 := Lib.hid hy0
          replace hS := Lib.hid hS
          replace hS1 := Lib.hid hS1
          replace hg1 := Lib.hid hg1
          replace hg2 := Lib.hid hg2
          replace hg3 := Lib.hid hg3
          replace hoz := Lib.hid hoz
          clear hS2 hvm hs3 hck hq1 hq2
          repeat' (first
    | refine AW_seq_kn fun K hK => ?_
    | refine AW_block ?_
    | (refine does_lookupV (enc := kN) (n := n6) (l := lo2) (c := ck2) (M := M2) (k := ⟨v1, v2, v3⟩) (z := .slice none 0 0) (zA := .c (.slice none 0 0)) kkN rfl (by simp only [push_cast, seval, *]) (by simp only [push_cast, seval, *]) (unhid hmw) hEU zero_rcs (fun _ => .c _) (by simp only [push_cast, seval, *]; exact unhid hIs) (unhid hy0) ?_; (try simp only [push_cast, seval, *]))
    | (refine does_call rfl rfl ?_; simp only [push_cast, seval, *]; refine ACall.monoP (eqRc_p _ _ (by assumption) (by assumption) _) ?_; (try simp only [push_cast, seval, *]))
    | (refine does_call rfl rfl ?_; simp only [push_cast, seval, *]; refine ACall.monoP (eqNm_p _ _ (by assumption) (by assumption) _) ?_; (try simp only [push_cast, seval, *]))
    | ((first
      | refine AW_region_draw (id := 12) E0 (fun f => [].contains f) dLTG0 dATG0 mixed (by kernel_rfl) ?_
      | refine AW_region_draw (id := 15) E0 (fun f => [].contains f) dLTG1 dATG1 mixed (by kernel_rfl) ?_
      | refine AW_region E0 ?_ | refine AW_ret ?_ | refine AW_exit ?_ | refine AW_skip ?_ | unfold retQ); try simp only [push_cast, seval, *])
    | ((first | (apply AW_cond; (case hc => (simp only [push_cast, seval]; rfl))) | (apply ER_guard; (case hb => (simp only [push_cast, seval]; rfl)))); all_goals ((intro hc; first | (exfalso; simp only [push_cast, seval, *] at hc; done) | (exact absurd hc (by decide)) | ((try first | rw [Bool.not_true] at hc | rw [Bool.not_false] at hc); first | (with_reducible replace hc := tTT hc); clear hc | (with_reducible replace hc := tFF hc); clear hc | (have hp := hc; try simp only [decide_eq_true_eq, decide_eq_false_iff_not, bA, bB, bC, bD, bE, bF, bG, bH] at hp))) <;> try simp only [push_cast, seval, *]))
    | (refine Kn.go hK ?_; clear hK K)
    | refine Kn.go (by assumption) ?_
    | (intro n hn; (try simp only [upd_none2, join_none_iff, ite_none, ne_eq] at hn); (try simp only [push_cast, seval, *]))
    | (intro hc)
    | (apply ER_blk; (case hp => rfl); (case hb => (simp only [push_cast, seval]; rfl)); (case hd => (simp only [push_cast, seval]; done)); (case h => (intro hc; simp only [push_cast, seval, *]; rfl)); simp only [push_cast, seval, *])
    | fail)
          have hG2n := (Loc.own _ _ _ _).old (unhid hoz) hn
          have hown := (Loc.own _ _ _ _).new (unhid hoz) hn (.r 26 3 1 [[.c (.int .i64 v1), .c (.int .i64 v2), .c (.int .i64 v3)]])
          obtain ⟨H1, r1, -⟩ := unhid hS1 _ _ ((Loc.chain RM_loc L2).new (unhid hc2) hG2n (.r 26 3 1 [[.c (.int .i64 v1), .c (.int .i64 v2), .c (.int .i64 v3)]]))
          refine does_appO rfl rfl rfl hown r1 hEt hSt hBt hZt rfl (by decide) ?_ ?_ ?_
          · have q1 := unhid hg1; have q2 := unhid hg3; simp only at q1; simp only [List.length_map, maxLen]; omega
          · have q1 := unhid hg1; have q2 := unhid hg3; simp only at q1; simp only [List.length_map]; omega
          intro z2 H2 hz2
          rw [← List.map_append, ← unhid hfm] at hz2
          have n9n : ¬ n9 = n := of_eq_false (o9 n hn).1
          have m9 := hz2.get (show _ = some (.r 47 3 1 [[.l 5 (a'.map Tx.av), .l 3 (b'.map Nm.av), .l 3 (c'.map Rec.av)]]) by rw [upd_ne n9n]; exact g9)
          have mn := hz2.get (upd_same _ n _)
          have zcs2 := hz2.cs
          have zone2 := hz2.one
          obtain ⟨H3, l1, l2⟩ := (Loc.own _ _ _ _).cut hz2 (le_upd_new hG2n)
          replace l1 := Lib.hid l1
          replace l2 := Lib.hid l2
          clear hown r1 hz2 zcs zone k5 k6 k9 o6 o9 hoz hn hmw hy0 hIs
          (try simp only [push_cast, seval, *])
          repeat' (first
    | refine AW_seq_kn fun K hK => ?_
    | refine AW_block ?_
    | (refine does_call rfl rfl ?_; simp only [push_cast, seval, *]; refine ACall.monoP (hs4 _) ?_; (try simp only [push_cast, seval, *]))
    | (refine does_call rfl rfl ?_; simp only [push_cast, seval, *]; refine ACall.monoP (eqRc_p _ _ (by assumption) (by assumption) _) ?_; (try simp only [push_cast, seval, *]))
    | (refine does_call rfl rfl ?_; simp only [push_cast, seval, *]; refine ACall.monoP (eqNm_p _ _ (by assumption) (by assumption) _) ?_; (try simp only [push_cast, seval, *]))
    | ((first
      | refine AW_region_draw (id := 12) E0 (fun f => [].contains f) dLTG0 dATG0 mixed (by kernel_rfl) ?_
      | refine AW_region_draw (id := 15) E0 (fun f => [].contains f) dLTG1 dATG1 mixed (by kernel_rfl) ?_
      | refine AW_region E0 ?_ | refine AW_ret ?_ | refine AW_exit ?_ | refine AW_skip ?_ | unfold retQ); try simp only [push_cast, seval, *])
    | ((first | (apply AW_cond; (case hc => (simp only [push_cast, seval]; rfl))) | (apply ER_guard; (case hb => (simp only [push_cast, seval]; rfl)))); all_goals ((intro hc; first | (exfalso; simp only [push_cast, seval, *] at hc; done) | (exact absurd hc (by decide)) | ((try first | rw [Bool.not_true] at hc | rw [Bool.not_false] at hc); first | (with_reducible replace hc := tTT hc); clear hc | (with_reducible replace hc := tFF hc); clear hc | (have hp := hc; try simp only [decide_eq_true_eq, decide_eq_false_iff_not, bA, bB, bC, bD, bE, bF, bG, bH] at hp))) <;> try simp only [push_cast, seval, *]))
    | (refine Kn.go hK ?_; clear hK K)
    | refine Kn.go (by assumption) ?_
    | (intro n hn; (try simp only [upd_none2, join_none_iff, ite_none, ne_eq] at hn); (try simp only [push_cast, seval, *]))
    | (intro hc)
    | (apply ER_blk; (case hp => rfl); (case hb => (simp only [push_cast, seval]; rfl)); (case hd => (simp only [push_cast, seval]; done)); (case h => (intro hc; simp only [push_cast, seval, *]; rfl)); simp only [push_cast, seval, *])
    | fail)
          exact ⟨(z2, H3), unhid l2, by (first | trivial | (simp only [push_cast, seval, *]; done)), unhid l1⟩
        · rintro ⟨z, Hs⟩ hoz
          simp only [List.take_length] at hoz ⊢
          have hlg := (unhid hG2).log
          simp only at hlg
          rw [hlg] at hoz
          have k5 := hoz.get g5
          have k9 := hoz.get g9
          have zcs := hoz.cs
          have zone := hoz.one
          have hle2 := (Loc.own _ _ _ _).le hoz
          have hq5 : ACall Try.prog 43 [z, .l 3 (c'.map Rec.av)] Hs fun r H' => r = .c (.bool true) ∧ H' = Hs :=
            ACall.lend (args' := [.l 3 (c'.map Rec.av), .l 3 (c'.map Rec.av)]) (Flat.c _) (show Lent _ _ _ ∧ Lent _ _ _ ∧ True from ⟨OwnL.lent hoz, Lent.refl _ _, trivial⟩) hq3.cl
          obtain ⟨G4, f1, f2⟩ := (Loc.chain RM_loc L2).cut (unhid hc2) (K := BaseG H n3 n5 n6 ⟨ks, kk, kv⟩ ⟨a, b, c⟩ lo2 ck2 M2) (Heap.le_trans (le_upd_new (BaseG_none (unhid q8))) (le_upd_new (by rw [upd_ne n98]; exact BaseG_none (unhid q9))))
          have f3 := (Loc.chain RM_loc L2).turn f2 (m := n5) (b0 := .r 47 3 1 [Lg.av ⟨a, b, c⟩]) (by unfold BaseG; rw [upd_ne n56, upd_same]) (.r 47 3 1 [Lg.av ⟨a', b', c'⟩])
          rw [BaseG_log n56] at f3
          have f4 := Heap.le_trans f1 hle2
          replace f3 := Lib.hid f3
          replace f4 := Lib.hid f4
          clear hlg hle2 f1 f2 hoz hck hq1 hq2 hq3
          repeat' (first
    | refine AW_seq_kn fun K hK => ?_
    | refine AW_block ?_
    | (refine does_call rfl rfl ?_; simp only [push_cast, seval, *]; refine ACall.mono hq5 ?_; (rintro _ _ ⟨rfl, e2⟩; have e3 := e2.symm; clear e2; subst e3); (try simp only [push_cast, seval, *]))
    | (refine does_call rfl rfl ?_; simp only [push_cast, seval, *]; refine ACall.monoP (eqRc_p _ _ (by assumption) (by assumption) _) ?_; (try simp only [push_cast, seval, *]))
    | (refine does_call rfl rfl ?_; simp only [push_cast, seval, *]; refine ACall.monoP (eqNm_p _ _ (by assumption) (by assumption) _) ?_; (try simp only [push_cast, seval, *]))
    | ((first
      | refine AW_region_draw (id := 12) E0 (fun f => [].contains f) dLTG0 dATG0 mixed (by kernel_rfl) ?_
      | refine AW_region_draw (id := 15) E0 (fun f => [].contains f) dLTG1 dATG1 mixed (by kernel_rfl) ?_
      | refine AW_region E0 ?_ | refine AW_ret ?_ | refine AW_exit ?_ | refine AW_skip ?_ | unfold retQ); try simp only [push_cast, seval, *])
    | ((first | (apply AW_cond; (case hc => (simp only [push_cast, seval]; rfl))) | (apply ER_guard; (case hb => (simp only [push_cast, seval]; rfl)))); all_goals ((intro hc; first | (exfalso; simp only [push_cast, seval, *] at hc; done) | (exact absurd hc (by decide)) | ((try first | rw [Bool.not_true] at hc | rw [Bool.not_false] at hc); first | (with_reducible replace hc := tTT hc); clear hc | (with_reducible replace hc := tFF hc); clear hc | (have hp := hc; try simp only [decide_eq_true_eq, decide_eq_false_iff_not, bA, bB, bC, bD, bE, bF, bG, bH] at hp))) <;> try simp only [push_cast, seval, *]))
    | (refine Kn.go hK ?_; clear hK K)
    | refine Kn.go (by assumption) ?_
    | (intro n hn; (try simp only [upd_none2, join_none_iff, ite_none, ne_eq] at hn); (try simp only [push_cast, seval, *]))
    | (intro hc)
    | (apply ER_blk; (case hp => rfl); (case hb => (simp only [push_cast, seval]; rfl)); (case hd => (simp only [push_cast, seval]; done)); (case h => (intro hc; simp only [push_cast, seval, *]; rfl)); simp only [push_cast, seval, *])
    | fail)
          exact ⟨⟨⟨a', b', c'⟩, W2, lo2, ck2, M2, L2, upd G4 n5 (.r 47 3 1 [Lg.av ⟨a', b', c'⟩])⟩, ⟨unhid hG2, unhid hM2, unhid f3⟩, by (first | trivial | (simp only [push_cast, seval, *]; done)), hle_upd2 (unhid f4) _ _⟩
    · rintro ⟨l, W, lo, ck, M, L, G⟩ ⟨hG, hM, hch⟩
      simp only at hG hM hch ⊢
      have hok := hG.ok
      have hle := Heap.le_trans (KeepG_le (key := ⟨ks, kk, kv⟩) (l := l) (lo := lo) (ck := ck) (M := M) n63 n65 g6n) ((Loc.chain RM_loc L).le hch)
      clear hG hM hch
      replace hok := Lib.hid hok
      replace hle := Lib.hid hle
      repeat' (first
    | refine AW_seq_kn fun K hK => ?_
    | refine AW_block ?_
    | (refine does_call rfl rfl ?_; simp only [push_cast, seval, *]; refine ACall.monoP (eqRc_p _ _ (by assumption) (by assumption) _) ?_; (try simp only [push_cast, seval, *]))
    | (refine does_call rfl rfl ?_; simp only [push_cast, seval, *]; refine ACall.monoP (eqNm_p _ _ (by assumption) (by assumption) _) ?_; (try simp only [push_cast, seval, *]))
    | ((first
      | refine AW_region_draw (id := 12) E0 (fun f => [].contains f) dLTG0 dATG0 mixed (by kernel_rfl) ?_
      | refine AW_region_draw (id := 15) E0 (fun f => [].contains f) dLTG1 dATG1 mixed (by kernel_rfl) ?_
      | refine AW_region E0 ?_ | refine AW_ret ?_ | refine AW_exit ?_ | refine AW_skip ?_ | unfold retQ); try simp only [push_cast, seval, *])
    | ((first | (apply AW_cond; (case hc => (simp only [push_cast, seval]; rfl))) | (apply ER_guard; (case hb => (simp only [push_cast, seval]; rfl)))); all_goals ((intro hc; first | (exfalso; simp only [push_cast, seval, *] at hc; done) | (exact absurd hc (by decide)) | ((try first | rw [Bool.not_true] at hc | rw [Bool.not_false] at hc); first | (with_reducible replace hc := tTT hc); clear hc | (with_reducible replace hc := tFF hc); clear hc | (have hp := hc; try simp only [decide_eq_true_eq, decide_eq_false_iff_not, bA, bB, bC, bD, bE, bF, bG, bH] at hp))) <;> try simp only [push_cast, seval, *]))
    | (refine Kn.go hK ?_; clear hK K)
    | refine Kn.go (by assumption) ?_
    | (intro n hn; (try simp only [upd_none2, join_none_iff, ite_none, ne_eq] at hn); (try simp only [push_cast, seval, *]))
    | (intro hc)
    | (apply ER_blk; (case hp => rfl); (case hb => (simp only [push_cast, seval]; rfl)); (case hd => (simp only [push_cast, seval]; done)); (case h => (intro hc; simp only [push_cast, seval, *]; rfl)); simp only [push_cast, seval, *])
    | fail)
      exact ⟨l, unhid hok, by (first | trivial | (simp only [push_cast, seval, *]; done)), unhid hle⟩
  · rintro s hok
    have hfit := fits_of ((lgOk_iff s).2 hok)
    have hvs := Values_p s hfit ⟨ks, kk, kv⟩
    have hvl := vals_len s.log ⟨ks, kk, kv⟩
    have hbd := lgOk_bd ((lgOk_iff s).2 hok)
    obtain ⟨a, b, c⟩ := s
    simp only at hvl hbd
    have hc400 : c.length ≤ 400 := hbd.2.2.1
    unfold KeepG
    rw [hkv]
    simp only [Lg.av] at hvs ⊢
    clear hbd hok hfit
    replace hvs := Lib.hid hvs
    replace hvl := Lib.hid hvl
    repeat' (first
    | refine AW_seq_kn fun K hK => ?_
    | refine AW_block ?_
    | (refine does_call rfl rfl ?_; simp only [push_cast, seval, *]; refine ACall.monoP (eqRc_p _ _ (by assumption) (by assumption) _) ?_; (try simp only [push_cast, seval, *]))
    | (refine does_call rfl rfl ?_; simp only [push_cast, seval, *]; refine ACall.monoP (eqNm_p _ _ (by assumption) (by assumption) _) ?_; (try simp only [push_cast, seval, *]))
    | ((first
      | refine AW_region_draw (id := 12) E0 (fun f => [].contains f) dLTG0 dATG0 mixed (by kernel_rfl) ?_
      | refine AW_region_draw (id := 15) E0 (fun f => [].contains f) dLTG1 dATG1 mixed (by kernel_rfl) ?_
      | refine AW_region E0 ?_ | refine AW_ret ?_ | refine AW_exit ?_ | refine AW_skip ?_ | unfold retQ); try simp only [push_cast, seval, *])
    | ((first | (apply AW_cond; (case hc => (simp only [push_cast, seval]; rfl))) | (apply ER_guard; (case hb => (simp only [push_cast, seval]; rfl)))); all_goals ((intro hc; first | (exfalso; simp only [push_cast, seval, *] at hc; done) | (exact absurd hc (by decide)) | ((try first | rw [Bool.not_true] at hc | rw [Bool.not_false] at hc); first | (with_reducible replace hc := tTT hc); clear hc | (with_reducible replace hc := tFF hc); clear hc | (have hp := hc; try simp only [decide_eq_true_eq, decide_eq_false_iff_not, bA, bB, bC, bD, bE, bF, bG, bH] at hp))) <;> try simp only [push_cast, seval, *]))
    | (refine Kn.go hK ?_; clear hK K)
    | refine Kn.go (by assumption) ?_
    | (intro n hn; (try simp only [upd_none2, join_none_iff, ite_none, ne_eq] at hn); (try simp only [push_cast, seval, *]))
    | (intro hc)
    | (apply ER_blk; (case hp => rfl); (case hb => (simp only [push_cast, seval]; rfl)); (case hd => (simp only [push_cast, seval]; done)); (case h => (intro hc; simp only [push_cast, seval, *]; rfl)); simp only [push_cast, seval, *])
    | fail)
    obtain ⟨N, hN⟩ : ∃ N : Nat → Nat, N = fun j => ((c.take j).filter fun r => decide (cmpR r ⟨ks, kk, kv⟩ = 0)).length := ⟨_, rfl⟩
    have hN0 : N 0 = 0 := by rw [hN]; rfl
    have hNl : N c.length = (c.filter fun r => decide (cmpR r ⟨ks, kk, kv⟩ = 0)).length := by rw [hN]; simp only [List.take_length]
    have hNb : ∀ j, N j ≤ 400 := fun j => by
      rw [hN]
      have := List.length_filter_le (fun r => decide (cmpR r ⟨ks, kk, kv⟩ = 0)) (c.take j)
      have h2 : (c.take j).length ≤ c.length := by rw [List.length_take]; omega
      simp only; omega
    have hNs : ∀ j x, c[j]? = some x → N (j + 1) = if x.s = ks ∧ x.k = kk then N j + 1 else N j := fun j x hx => by
      rw [hN]
      simp only
      rw [take_snoc hx, List.filter_append, List.length_append]
      by_cases e : cmpR x ⟨ks, kk, kv⟩ = 0
      · have e2 := cmpR_zero.1 e
        simp only at e2
        rw [if_pos e2]; simp [e]
      · have e2 : ¬ (x.s = ks ∧ x.k = kk) := fun q => e (cmpR_zero.2 q)
        rw [if_neg e2]; simp [e]
    rw [← hNl] at hvl
    clear hN hNl
    replace hNb := Lib.hid hNb
    replace hNs := Lib.hid hNs
    repeat' (first
    | refine AW_seq_kn fun K hK => ?_
    | refine AW_block ?_
    | (refine does_call rfl rfl ?_; simp only [push_cast, seval, *]; refine ACall.monoP (eqRc_p _ _ (by assumption) (by assumption) _) ?_; (try simp only [push_cast, seval, *]))
    | (refine does_call rfl rfl ?_; simp only [push_cast, seval, *]; refine ACall.monoP (eqNm_p _ _ (by assumption) (by assumption) _) ?_; (try simp only [push_cast, seval, *]))
    | ((first
      | refine AW_region_draw (id := 12) E0 (fun f => [].contains f) dLTG0 dATG0 mixed (by kernel_rfl) ?_
      | refine AW_region_draw (id := 15) E0 (fun f => [].contains f) dLTG1 dATG1 mixed (by kernel_rfl) ?_
      | refine AW_region E0 ?_ | refine AW_ret ?_ | refine AW_exit ?_ | refine AW_skip ?_ | unfold retQ); try simp only [push_cast, seval, *])
    | ((first | (apply AW_cond; (case hc => (simp only [push_cast, seval]; rfl))) | (apply ER_guard; (case hb => (simp only [push_cast, seval]; rfl)))); all_goals ((intro hc; first | (exfalso; simp only [push_cast, seval, *] at hc; done) | (exact absurd hc (by decide)) | ((try first | rw [Bool.not_true] at hc | rw [Bool.not_false] at hc); first | (with_reducible replace hc := tTT hc); clear hc | (with_reducible replace hc := tFF hc); clear hc | (have hp := hc; try simp only [decide_eq_true_eq, decide_eq_false_iff_not, bA, bB, bC, bD, bE, bF, bG, bH] at hp))) <;> try simp only [push_cast, seval, *]))
    | (refine Kn.go hK ?_; clear hK K)
    | refine Kn.go (by assumption) ?_
    | (intro n hn; (try simp only [upd_none2, join_none_iff, ite_none, ne_eq] at hn); (try simp only [push_cast, seval, *]))
    | (intro hc)
    | (apply ER_blk; (case hp => rfl); (case hb => (simp only [push_cast, seval]; rfl)); (case hd => (simp only [push_cast, seval]; done)); (case h => (intro hc; simp only [push_cast, seval, *]; rfl)); simp only [push_cast, seval, *])
    | fail)
    refine AW_loopN c.length (fun _ => True) (fun j => [(3, .p n3 3 0 0), (5, .p n5 3 0 0), (15, ci (N j)), (139, .l 3 (c.map Rec.av)), (140, ci c.length), (141, ci j)]) (fun _ => upd (upd H n3 (.r 36 3 1 [[.c (.int .i64 ks), .c (.int .i64 kk), .c (.int .i64 kv)]])) n5 (.r 47 3 1 [[.l 5 (a.map Tx.av), .l 3 (b.map Nm.av), .l 3 (c.map Rec.av)]])) trivial ?_ ?_ ?_ ?_
    · (first | trivial | (simp only [push_cast, seval, *]; done))
    · exact Heap.le_refl _
    · intro j hj _
      have hx := List.getElem?_eq_getElem (l := c) hj; generalize c[j] = x at hx; have hxm := List.mem_of_getElem? hx; have hjl : (j : Int) < c.length := (by omega); have hjw : IntKind.i64.wrap ((j : Int) + 1) = (j : Int) + 1 := wrap_i64 (by omega) (by omega)
      have hs := unhid hNs j x hx
      have hb := unhid hNb j
      generalize N (j + 1) = N1 at *
      generalize N j = N0 at *
      obtain ⟨x1, x2, x3⟩ := x
      have hxv : Rec.av ⟨x1, x2, x3⟩ = [.c (.int .i64 x1), .c (.int .i64 x2), .c (.int .i64 x3)] := rfl
      simp only at hs
      clear hxm hvs hvl
      have hNw : IntKind.i64.wrap ((N0 : Int) + 1) = (N0 : Int) + 1 := wrap_i64 (by omega) (by omega)
      by_cases e1 : x1 = ks
      · by_cases e2 : x2 = kk
        · rw [if_pos ⟨e1, e2⟩] at hs
          subst hs
          repeat' (first
    | refine AW_seq_kn fun K hK => ?_
    | refine AW_block ?_
    | (refine does_call rfl rfl ?_; simp only [push_cast, seval, *]; refine ACall.monoP (eqRc_p _ _ (by assumption) (by assumption) _) ?_; (try simp only [push_cast, seval, *]))
    | (refine does_call rfl rfl ?_; simp only [push_cast, seval, *]; refine ACall.monoP (eqNm_p _ _ (by assumption) (by assumption) _) ?_; (try simp only [push_cast, seval, *]))
    | ((first
      | refine AW_region_draw (id := 12) E0 (fun f => [].contains f) dLTG0 dATG0 mixed (by kernel_rfl) ?_
      | refine AW_region_draw (id := 15) E0 (fun f => [].contains f) dLTG1 dATG1 mixed (by kernel_rfl) ?_
      | refine AW_region E0 ?_ | refine AW_ret ?_ | refine AW_exit ?_ | refine AW_skip ?_ | unfold retQ); try simp only [push_cast, seval, *])
    | ((first | (apply AW_cond; (case hc => (simp only [push_cast, seval]; rfl))) | (apply ER_guard; (case hb => (simp only [push_cast, seval]; rfl)))); all_goals ((intro hc; first | (exfalso; simp only [push_cast, seval, *] at hc; done) | (exact absurd hc (by decide)) | ((try first | rw [Bool.not_true] at hc | rw [Bool.not_false] at hc); first | (with_reducible replace hc := tTT hc); clear hc | (with_reducible replace hc := tFF hc); clear hc | (have hp := hc; try simp only [decide_eq_true_eq, decide_eq_false_iff_not, bA, bB, bC, bD, bE, bF, bG, bH] at hp))) <;> try simp only [push_cast, seval, *]))
    | (refine Kn.go hK ?_; clear hK K)
    | refine Kn.go (by assumption) ?_
    | (intro n hn; (try simp only [upd_none2, join_none_iff, ite_none, ne_eq] at hn); (try simp only [push_cast, seval, *]))
    | (intro hc)
    | (apply ER_blk; (case hp => rfl); (case hb => (simp only [push_cast, seval]; rfl)); (case hd => (simp only [push_cast, seval]; done)); (case h => (intro hc; simp only [push_cast, seval, *]; rfl)); simp only [push_cast, seval, *])
    | fail)
          exact ⟨trivial, by (first | trivial | (simp only [push_cast, seval, *]; done)), by first | trivial | (repeat' (first | exact Heap.le_refl _ | refine hle_upd2 ?_ _ _ | (refine Heap.le_new ?_ ?_; rotate_left 1; focus (first | assumption | (simp only [upd_none2, upd_get, ne_eq, push_cast, seval, *]; done) | (simp [upd_get, *]; done)))))⟩
        · rw [if_neg (fun h => e2 h.2)] at hs
          subst hs
          repeat' (first
    | refine AW_seq_kn fun K hK => ?_
    | refine AW_block ?_
    | (refine does_call rfl rfl ?_; simp only [push_cast, seval, *]; refine ACall.monoP (eqRc_p _ _ (by assumption) (by assumption) _) ?_; (try simp only [push_cast, seval, *]))
    | (refine does_call rfl rfl ?_; simp only [push_cast, seval, *]; refine ACall.monoP (eqNm_p _ _ (by assumption) (by assumption) _) ?_; (try simp only [push_cast, seval, *]))
    | ((first
      | refine AW_region_draw (id := 12) E0 (fun f => [].contains f) dLTG0 dATG0 mixed (by kernel_rfl) ?_
      | refine AW_region_draw (id := 15) E0 (fun f => [].contains f) dLTG1 dATG1 mixed (by kernel_rfl) ?_
      | refine AW_region E0 ?_ | refine AW_ret ?_ | refine AW_exit ?_ | refine AW_skip ?_ | unfold retQ); try simp only [push_cast, seval, *])
    | ((first | (apply AW_cond; (case hc => (simp only [push_cast, seval]; rfl))) | (apply ER_guard; (case hb => (simp only [push_cast, seval]; rfl)))); all_goals ((intro hc; first | (exfalso; simp only [push_cast, seval, *] at hc; done) | (exact absurd hc (by decide)) | ((try first | rw [Bool.not_true] at hc | rw [Bool.not_false] at hc); first | (with_reducible replace hc := tTT hc); clear hc | (with_reducible replace hc := tFF hc); clear hc | (have hp := hc; try simp only [decide_eq_true_eq, decide_eq_false_iff_not, bA, bB, bC, bD, bE, bF, bG, bH] at hp))) <;> try simp only [push_cast, seval, *]))
    | (refine Kn.go hK ?_; clear hK K)
    | refine Kn.go (by assumption) ?_
    | (intro n hn; (try simp only [upd_none2, join_none_iff, ite_none, ne_eq] at hn); (try simp only [push_cast, seval, *]))
    | (intro hc)
    | (apply ER_blk; (case hp => rfl); (case hb => (simp only [push_cast, seval]; rfl)); (case hd => (simp only [push_cast, seval]; done)); (case h => (intro hc; simp only [push_cast, seval, *]; rfl)); simp only [push_cast, seval, *])
    | fail)
          exact ⟨trivial, by (first | trivial | (simp only [push_cast, seval, *]; done)), by first | trivial | (repeat' (first | exact Heap.le_refl _ | refine hle_upd2 ?_ _ _ | (refine Heap.le_new ?_ ?_; rotate_left 1; focus (first | assumption | (simp only [upd_none2, upd_get, ne_eq, push_cast, seval, *]; done) | (simp [upd_get, *]; done)))))⟩
      · rw [if_neg (fun h => e1 h.1)] at hs
        subst hs
        repeat' (first
    | refine AW_seq_kn fun K hK => ?_
    | refine AW_block ?_
    | (refine does_call rfl rfl ?_; simp only [push_cast, seval, *]; refine ACall.monoP (eqRc_p _ _ (by assumption) (by assumption) _) ?_; (try simp only [push_cast, seval, *]))
    | (refine does_call rfl rfl ?_; simp only [push_cast, seval, *]; refine ACall.monoP (eqNm_p _ _ (by assumption) (by assumption) _) ?_; (try simp only [push_cast, seval, *]))
    | ((first
      | refine AW_region_draw (id := 12) E0 (fun f => [].contains f) dLTG0 dATG0 mixed (by kernel_rfl) ?_
      | refine AW_region_draw (id := 15) E0 (fun f => [].contains f) dLTG1 dATG1 mixed (by kernel_rfl) ?_
      | refine AW_region E0 ?_ | refine AW_ret ?_ | refine AW_exit ?_ | refine AW_skip ?_ | unfold retQ); try simp only [push_cast, seval, *])
    | ((first | (apply AW_cond; (case hc => (simp only [push_cast, seval]; rfl))) | (apply ER_guard; (case hb => (simp only [push_cast, seval]; rfl)))); all_goals ((intro hc; first | (exfalso; simp only [push_cast, seval, *] at hc; done) | (exact absurd hc (by decide)) | ((try first | rw [Bool.not_true] at hc | rw [Bool.not_false] at hc); first | (with_reducible replace hc := tTT hc); clear hc | (with_reducible replace hc := tFF hc); clear hc | (have hp := hc; try simp only [decide_eq_true_eq, decide_eq_false_iff_not, bA, bB, bC, bD, bE, bF, bG, bH] at hp))) <;> try simp only [push_cast, seval, *]))
    | (refine Kn.go hK ?_; clear hK K)
    | refine Kn.go (by assumption) ?_
    | (intro n hn; (try simp only [upd_none2, join_none_iff, ite_none, ne_eq] at hn); (try simp only [push_cast, seval, *]))
    | (intro hc)
    | (apply ER_blk; (case hp => rfl); (case hb => (simp only [push_cast, seval]; rfl)); (case hd => (simp only [push_cast, seval]; done)); (case h => (intro hc; simp only [push_cast, seval, *]; rfl)); simp only [push_cast, seval, *])
    | fail)
        exact ⟨trivial, by (first | trivial | (simp only [push_cast, seval, *]; done)), by first | trivial | (repeat' (first | exact Heap.le_refl _ | refine hle_upd2 ?_ _ _ | (refine Heap.le_new ?_ ?_; rotate_left 1; focus (first | assumption | (simp only [upd_none2, upd_get, ne_eq, push_cast, seval, *]; done) | (simp [upd_get, *]; done)))))⟩
    · intro _
      have hvs2 := unhid hvs
      have hvl2 := unhid hvl
      clear hvs hvl
      repeat' (first
    | refine AW_seq_kn fun K hK => ?_
    | refine AW_block ?_
    | (refine does_call rfl rfl ?_; simp only [push_cast, seval, *]; refine ACall.monoP (hvs2 _) ?_; (try simp only [push_cast, seval, *]))
    | (refine does_call rfl rfl ?_; simp only [push_cast, seval, *]; refine ACall.monoP (eqRc_p _ _ (by assumption) (by assumption) _) ?_; (try simp only [push_cast, seval, *]))
    | (refine does_call rfl rfl ?_; simp only [push_cast, seval, *]; refine ACall.monoP (eqNm_p _ _ (by assumption) (by assumption) _) ?_; (try simp only [push_cast, seval, *]))
    | ((first
      | refine AW_region_draw (id := 12) E0 (fun f => [].contains f) dLTG0 dATG0 mixed (by kernel_rfl) ?_
      | refine AW_region_draw (id := 15) E0 (fun f => [].contains f) dLTG1 dATG1 mixed (by kernel_rfl) ?_
      | refine AW_region E0 ?_ | refine AW_ret ?_ | refine AW_exit ?_ | refine AW_skip ?_ | unfold retQ); try simp only [push_cast, seval, *])
    | ((first | (apply AW_cond; (case hc => (simp only [push_cast, seval]; rfl))) | (apply ER_guard; (case hb => (simp only [push_cast, seval]; rfl)))); all_goals ((intro hc; first | (exfalso; simp only [push_cast, seval, *] at hc; done) | (exact absurd hc (by decide)) | ((try first | rw [Bool.not_true] at hc | rw [Bool.not_false] at hc); first | (with_reducible replace hc := tTT hc); clear hc | (with_reducible replace hc := tFF hc); clear hc | (have hp := hc; try simp only [decide_eq_true_eq, decide_eq_false_iff_not, bA, bB, bC, bD, bE, bF, bG, bH] at hp))) <;> try simp only [push_cast, seval, *]))
    | (refine Kn.go hK ?_; clear hK K)
    | refine Kn.go (by assumption) ?_
    | (intro n hn; (try simp only [upd_none2, join_none_iff, ite_none, ne_eq] at hn); (try simp only [push_cast, seval, *]))
    | (intro hc)
    | (apply ER_blk; (case hp => rfl); (case hb => (simp only [push_cast, seval]; rfl)); (case hd => (simp only [push_cast, seval]; done)); (case h => (intro hc; simp only [push_cast, seval, *]; rfl)); simp only [push_cast, seval, *])
    | fail)
      exact ⟨_, _, Weak.refl _ _, by first | rfl | simp⟩
end Go.Proofs.Ytdeckjoeggmagaa
