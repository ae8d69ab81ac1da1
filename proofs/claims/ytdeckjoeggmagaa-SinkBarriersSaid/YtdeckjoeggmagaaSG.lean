/- Walks: acts are done on a log, one after another (where each is done). -/
import Derived.Test.YtdeckjoeggmagaaSD
import Derived.Test.YtdeckjoeggmagaaSB
import Derived.Test.YtdeckjoeggmagaaWB
namespace Go.Proofs.Ytdeckjoeggmagaa
open Go.RowKit
open Nat renaming reduceEqDiff → nA, reduceLT → nB, reduceLeDiff → nC, reduceAdd → nD, reduceMul → nE, reduceSub → nF, reduceBEq → nG
open Int renaming reduceToNat → iA, reduceLT → iB, reduceLE → iC, reduceEq → iD
open Bool renaming and_eq_true → bA, or_eq_true → bB, or_eq_false_iff → bC, and_eq_false_iff → bD, not_eq_true' → bE, not_eq_false' → bF, not_true → bG, not_false → bH
set_option linter.all false
set_option maxHeartbeats 4000000
attribute [local irreducible] AW Does ACall tE tS tB tZ
set_option maxRecDepth 5000

def lkV {α : Type} (x : Option (ME α)) : AV := match x with | some e => .t [e.y, .c (.bool true)] | none => .t [.x, .c (.bool false)]
section
variable {P : Program} {o : Oper} {a : Nat → AV} {H : Heap} {K : AV → Heap → Prop} {α : Type} [DecidableEq α] {enc : α → Value}
theorem does_lookupG {t kt et : TypeId} {m x : Operand} {n : Nat} {l : List (ME α)} {c : Nat} {M : Mem} {k : α} {y : AV} {b : Bool} (KK : KeyK P kt enc) (ho : o.op = .lookup t m x true) (hm : ev a m = .c (.map (some n))) (hH : H n = some (bm enc l c M)) (hW : MW M l)
    (ht : P.underlying t = some (.map kt et)) {z : Value} (hz : ∀ w, (zeroValue et).run P w = .ok z w) (hk : IsK (ev a x) (enc k))
    (hr : lkV (mget k l) = .t [y, .c (.bool b)]) (h : K (.t [y, .c (.bool b)]) H) : Does P o a H K :=
  does_lookup KK ho hm hH hW ht (zA := .x) hz (fun _ => .x _) hk (by
    cases hg : mget k l with
    | none =>
      rw [hg] at hr
      have hr2 : AV.t [.x, .c (.bool false)] = .t [y, .c (.bool b)] := hr
      show K (.t [.x, .c (.bool false)]) H
      rw [hr2]; exact h
    | some e =>
      rw [hg] at hr
      have hr2 : AV.t [e.y, .c (.bool true)] = .t [y, .c (.bool b)] := hr
      show K (.t [e.y, .c (.bool true)]) H
      rw [hr2]; exact h)
theorem does_mapUpdateY {t kt et : TypeId} {m x z : Operand} {n : Nat} {l : List (ME α)} {c : Nat} {M : Mem} {k : α} {v : Value} (KK : KeyK P kt enc) (ho : o.op = .mapUpdate t m x z ∨ o.op = .insert t m x z) (hm : ev a m = .c (.map (some n))) (hH : H n = some (bm enc l c M))
    (ht : P.underlying t = some (.map kt et)) (hk : IsK (ev a x) (enc k)) (hy : ev a z = .c v)
    (h : K .x (upd H n (bm enc (mput k v (.c v) c l) (mclk k l c) M))) : Does P o a H K :=
  does_mapUpdateC KK ho hm hH ht hk (by rw [hy]; exact IsK.c _) (by rw [hy]; exact h)
end
theorem info_do : ((Try.prog.info? 125).bind (·.zero)).isSome = true := by kernel_rfl
theorem zero_do : ∃ z, ∀ w : World, (zeroValue 125).run Try.prog w = .ok z w := by
  have h := info_do
  cases hi : Try.prog.info? 125 with
  | none => rw [hi] at h; cases h
  | some i =>
    rw [hi] at h
    cases h2 : i.zero with
    | none => simp [h2] at h
    | some z => exact ⟨z, fun w => by simp [zeroValue, typeInfo, hi, h2, Sem.run_bind]⟩
abbrev kI (n : Int) : Value := .int .i64 n
theorem kkI : KeyK Try.prog 3 kI := KeyK.int tU3
abbrev fnC (f : Nat) : Value := .func (.func f) #[] #[]
def doM : List (ME Int) := [⟨1, fnC 99, .c (fnC 99), 0⟩, ⟨2, fnC 100, .c (fnC 100), 1⟩, ⟨3, fnC 101, .c (fnC 101), 2⟩]
def doC (l : Lg) (row : List Act) : Lg := row.foldl (fun c a => (actR c a).1) l
theorem doC_snoc (l : Lg) {row : List Act} {k : Nat} {x : Act} (h : row[k]? = some x) : doC l (row.take (k + 1)) = (actR (doC l (row.take k)) x).1 := by
  unfold doC
  rw [take_snoc h, List.foldl_append]; rfl
def DoOk (l : Lg) (row : List Act) : Prop := ∀ (k : Nat) (x : Act), row[k]? = some x → (doC l (row.take k)).fits ∧ (x.kind = 1 ∨ x.kind = 2 ∨ x.kind = 3) ∧ (x.kind ≠ 2 → x.rc = zRec) ∧ (actR (doC l (row.take k)) x).2 = 0
theorem do_call (c : Lg) (x : Act) (h : c.fits ∧ (x.kind = 1 ∨ x.kind = 2 ∨ x.kind = 3) ∧ (x.kind ≠ 2 → x.rc = zRec) ∧ (actR c x).2 = 0) :
    ∃ f, lkV (mget x.kind doM) = .t [.c (fnC f), .c (.bool true)] ∧ ∀ M, ACall Try.prog f [.g (Lg.av c), .g (Act.av x)] M fun r H' => r = .t [.g (actR c x).1.av, .c (.int .i64 0)] ∧ H' = M := by
  obtain ⟨hf, hk, -, h0⟩ := h
  rw [show (.int .i64 0 : Value) = .int .i64 (actR c x).2 by rw [h0]]
  rcases hk with hk | hk | hk
  · refine ⟨99, by rw [hk]; rfl, fun M => ?_⟩
    rw [show actR c x = openR c x.nm by unfold actR; rw [if_pos hk]]
    exact opW (vs := [.int .i64 (openR c x.nm).2]) (do1_o x c hf M)
  · refine ⟨100, by rw [hk]; rfl, fun M => ?_⟩
    rw [show actR c x = writeR c x.nm [x.rc] by unfold actR; rw [if_neg (by omega), if_pos hk]]
    exact opW (vs := [.int .i64 (writeR c x.nm [x.rc]).2]) (do2_o x c hf M)
  · refine ⟨101, by rw [hk]; rfl, fun M => ?_⟩
    rw [show actR c x = readyR c x.nm by unfold actR; rw [if_neg (by omega), if_neg (by omega)]]
    exact opW (vs := [.int .i64 (readyR c x.nm).2]) (do3_o x c hf M)
theorem Do_z (row : List Act) (hrow : row.length ≤ 1000) (hd : DoOk zeroL row) : Pure Try.prog 59 [.g zL, .l 7 (row.map Act.av)] (.t [.g (doC zeroL row).av, .c (.int .i64 row.length), .c (.int .i64 0)]) := by
  intro H
  generalize hzz : zeroL = l at hd ⊢
  obtain ⟨z, hz⟩ := zero_do
  obtain ⟨f, hf⟩ : ∃ f, f = doC l := ⟨_, rfl⟩
  have hf0 : f (row.take 0) = l := by rw [hf]; rfl
  have hfe : f (row.take row.length) = doC l row := by rw [List.take_length, hf]
  have hfs : ∀ k x, row[k]? = some x → f (row.take (k + 1)) = (actR (f (row.take k)) x).1 := fun k x h => by rw [hf]; exact doC_snoc l h
  have hdd : ∀ k x, row[k]? = some x → ∃ fn, lkV (mget x.kind doM) = .t [.c (fnC fn), .c (.bool true)] ∧ (x.kind ≠ 2 → x.rc = zRec) ∧ ∀ M, ACall Try.prog fn [.g (Lg.av (f (row.take k))), .g (Act.av x)] M fun r H' => r = .t [.g (f (row.take (k + 1))).av, .c (.int .i64 0)] ∧ H' = M := fun k x h => by
    have h4 := hd k x h
    rw [hfs k x h, hf]
    obtain ⟨fn, a1, a2⟩ := do_call (doC l (row.take k)) x h4
    exact ⟨fn, a1, h4.2.2.1, a2⟩
  rw [← hfe]
  clear hd hfs hf hfe
  replace hdd := Lib.hid hdd
  replace hf0 := Lib.hid hf0
  refine ACall_of' Try.func59 rfl (Ent_of Try.func59 (by kernel_rfl) rfl) (by simp [Try.ntmps59]) ?_; simp only [Try.ntmps59, Try.results59]
  repeat' (first
    | refine AW_seq_kn fun K hK => ?_
    | refine AW_block ?_
    | ((first
      | refine AW_region E0 ?_ | refine AW_ret ?_ | refine AW_exit ?_ | refine AW_skip ?_ | unfold retQ); try simp only [push_cast, seval, *])
    | ((first | (apply AW_cond; (case hc => (simp only [push_cast, seval]; rfl))) | (apply ER_guard; (case hb => (simp only [push_cast, seval]; rfl)))); all_goals ((intro hc; first | (exfalso; simp only [push_cast, seval, *] at hc; done) | (exact absurd hc (by decide)) | ((try first | rw [Bool.not_true] at hc | rw [Bool.not_false] at hc); first | (with_reducible replace hc := tTT hc); clear hc | (with_reducible replace hc := tFF hc); clear hc | (have hp := hc; try simp only [decide_eq_true_eq, decide_eq_false_iff_not, bA, bB, bC, bD, bE, bF, bG, bH] at hp))) <;> try simp only [push_cast, seval, *]))
    | (refine Kn.go hK ?_; clear hK K)
    | refine Kn.go (by assumption) ?_
    | (intro n hn; (try simp only [upd_none2, join_none_iff, ite_none, ne_eq] at hn); (try simp only [push_cast, seval, *]))
    | (intro hc)
    | (apply ER_blk; (case hp => rfl); (case hb => (simp only [push_cast, seval]; rfl)); (case hd => (simp only [push_cast, seval]; done)); (case h => (intro hc; simp only [push_cast, seval, *]; rfl)); simp only [push_cast, seval, *])
    | fail)
  refine does_makeMap kI rfl ?_
  intro n6 hn6
  (try simp only [push_cast, seval, *])
  repeat' (first
    | refine AW_seq_kn fun K hK => ?_
    | refine AW_block ?_
    | ((first
      | refine AW_region E0 ?_ | refine AW_ret ?_ | refine AW_exit ?_ | refine AW_skip ?_ | unfold retQ); try simp only [push_cast, seval, *])
    | ((first | (apply AW_cond; (case hc => (simp only [push_cast, seval]; rfl))) | (apply ER_guard; (case hb => (simp only [push_cast, seval]; rfl)))); all_goals ((intro hc; first | (exfalso; simp only [push_cast, seval, *] at hc; done) | (exact absurd hc (by decide)) | ((try first | rw [Bool.not_true] at hc | rw [Bool.not_false] at hc); first | (with_reducible replace hc := tTT hc); clear hc | (with_reducible replace hc := tFF hc); clear hc | (have hp := hc; try simp only [decide_eq_true_eq, decide_eq_false_iff_not, bA, bB, bC, bD, bE, bF, bG, bH] at hp))) <;> try simp only [push_cast, seval, *]))
    | (refine Kn.go hK ?_; clear hK K)
    | refine Kn.go (by assumption) ?_
    | (intro n hn; (try simp only [upd_none2, join_none_iff, ite_none, ne_eq] at hn); (try simp only [push_cast, seval, *]))
    | (intro hc)
    | (apply ER_blk; (case hp => rfl); (case hb => (simp only [push_cast, seval]; rfl)); (case hd => (simp only [push_cast, seval]; done)); (case h => (intro hc; simp only [push_cast, seval, *]; rfl)); simp only [push_cast, seval, *])
    | fail)
  refine does_mapUpdateY (n := n6) (enc := kI) (l := []) (c := 0) (M := M0) (k := 1) (v := fnC 99) kkI (.inr rfl) (by simp only [push_cast, seval, *]) (by rw [upd_same]) tU126 (by simp only [push_cast, seval, *]; exact IsK.c _) (by simp only [push_cast, seval, *]) ?_
  rw [upd_upd, show mput (1 : Int) (fnC 99) (.c (fnC 99)) 0 [] = [⟨1, fnC 99, .c (fnC 99), 0⟩] from rfl, show mclk (1 : Int) [] 0 = 1 from rfl]
  (try simp only [push_cast, seval, *])
  repeat' (first
    | refine AW_seq_kn fun K hK => ?_
    | refine AW_block ?_
    | ((first
      | refine AW_region E0 ?_ | refine AW_ret ?_ | refine AW_exit ?_ | refine AW_skip ?_ | unfold retQ); try simp only [push_cast, seval, *])
    | ((first | (apply AW_cond; (case hc => (simp only [push_cast, seval]; rfl))) | (apply ER_guard; (case hb => (simp only [push_cast, seval]; rfl)))); all_goals ((intro hc; first | (exfalso; simp only [push_cast, seval, *] at hc; done) | (exact absurd hc (by decide)) | ((try first | rw [Bool.not_true] at hc | rw [Bool.not_false] at hc); first | (with_reducible replace hc := tTT hc); clear hc | (with_reducible replace hc := tFF hc); clear hc | (have hp := hc; try simp only [decide_eq_true_eq, decide_eq_false_iff_not, bA, bB, bC, bD, bE, bF, bG, bH] at hp))) <;> try simp only [push_cast, seval, *]))
    | (refine Kn.go hK ?_; clear hK K)
    | refine Kn.go (by assumption) ?_
    | (intro n hn; (try simp only [upd_none2, join_none_iff, ite_none, ne_eq] at hn); (try simp only [push_cast, seval, *]))
    | (intro hc)
    | (apply ER_blk; (case hp => rfl); (case hb => (simp only [push_cast, seval]; rfl)); (case hd => (simp only [push_cast, seval]; done)); (case h => (intro hc; simp only [push_cast, seval, *]; rfl)); simp only [push_cast, seval, *])
    | fail)
  refine does_mapUpdateY (n := n6) (enc := kI) (l := [⟨1, fnC 99, .c (fnC 99), 0⟩]) (c := 1) (M := M0) (k := 2) (v := fnC 100) kkI (.inr rfl) (by simp only [push_cast, seval, *]) (by rw [upd_same]) tU126 (by simp only [push_cast, seval, *]; exact IsK.c _) (by simp only [push_cast, seval, *]) ?_
  rw [upd_upd, show mput (2 : Int) (fnC 100) (.c (fnC 100)) 1 [⟨1, fnC 99, .c (fnC 99), 0⟩] = [⟨1, fnC 99, .c (fnC 99), 0⟩, ⟨2, fnC 100, .c (fnC 100), 1⟩] from rfl, show mclk (2 : Int) [⟨1, fnC 99, .c (fnC 99), 0⟩] 1 = 2 from rfl]
  (try simp only [push_cast, seval, *])
  repeat' (first
    | refine AW_seq_kn fun K hK => ?_
    | refine AW_block ?_
    | ((first
      | refine AW_region E0 ?_ | refine AW_ret ?_ | refine AW_exit ?_ | refine AW_skip ?_ | unfold retQ); try simp only [push_cast, seval, *])
    | ((first | (apply AW_cond; (case hc => (simp only [push_cast, seval]; rfl))) | (apply ER_guard; (case hb => (simp only [push_cast, seval]; rfl)))); all_goals ((intro hc; first | (exfalso; simp only [push_cast, seval, *] at hc; done) | (exact absurd hc (by decide)) | ((try first | rw [Bool.not_true] at hc | rw [Bool.not_false] at hc); first | (with_reducible replace hc := tTT hc); clear hc | (with_reducible replace hc := tFF hc); clear hc | (have hp := hc; try simp only [decide_eq_true_eq, decide_eq_false_iff_not, bA, bB, bC, bD, bE, bF, bG, bH] at hp))) <;> try simp only [push_cast, seval, *]))
    | (refine Kn.go hK ?_; clear hK K)
    | refine Kn.go (by assumption) ?_
    | (intro n hn; (try simp only [upd_none2, join_none_iff, ite_none, ne_eq] at hn); (try simp only [push_cast, seval, *]))
    | (intro hc)
    | (apply ER_blk; (case hp => rfl); (case hb => (simp only [push_cast, seval]; rfl)); (case hd => (simp only [push_cast, seval]; done)); (case h => (intro hc; simp only [push_cast, seval, *]; rfl)); simp only [push_cast, seval, *])
    | fail)
  refine does_mapUpdateY (n := n6) (enc := kI) (l := [⟨1, fnC 99, .c (fnC 99), 0⟩, ⟨2, fnC 100, .c (fnC 100), 1⟩]) (c := 2) (M := M0) (k := 3) (v := fnC 101) kkI (.inr rfl) (by simp only [push_cast, seval, *]) (by rw [upd_same]) tU126 (by simp only [push_cast, seval, *]; exact IsK.c _) (by simp only [push_cast, seval, *]) ?_
  rw [upd_upd, show mput (3 : Int) (fnC 101) (.c (fnC 101)) 2 [⟨1, fnC 99, .c (fnC 99), 0⟩, ⟨2, fnC 100, .c (fnC 100), 1⟩] = doM from rfl, show mclk (3 : Int) [⟨1, fnC 99, .c (fnC 99), 0⟩, ⟨2, fnC 100, .c (fnC 100), 1⟩] 2 = 3 from rfl]
  (try simp only [push_cast, seval, *])
  repeat' (first
    | refine AW_seq_kn fun K hK => ?_
    | refine AW_block ?_
    | ((first
      | refine AW_region E0 ?_ | refine AW_ret ?_ | refine AW_exit ?_ | refine AW_skip ?_ | unfold retQ); try simp only [push_cast, seval, *])
    | ((first | (apply AW_cond; (case hc => (simp only [push_cast, seval]; rfl))) | (apply ER_guard; (case hb => (simp only [push_cast, seval]; rfl)))); all_goals ((intro hc; first | (exfalso; simp only [push_cast, seval, *] at hc; done) | (exact absurd hc (by decide)) | ((try first | rw [Bool.not_true] at hc | rw [Bool.not_false] at hc); first | (with_reducible replace hc := tTT hc); clear hc | (with_reducible replace hc := tFF hc); clear hc | (have hp := hc; try simp only [decide_eq_true_eq, decide_eq_false_iff_not, bA, bB, bC, bD, bE, bF, bG, bH] at hp))) <;> try simp only [push_cast, seval, *]))
    | (refine Kn.go hK ?_; clear hK K)
    | refine Kn.go (by assumption) ?_
    | (intro n hn; (try simp only [upd_none2, join_none_iff, ite_none, ne_eq] at hn); (try simp only [push_cast, seval, *]))
    | (intro hc)
    | (apply ER_blk; (case hp => rfl); (case hb => (simp only [push_cast, seval]; rfl)); (case hd => (simp only [push_cast, seval]; done)); (case h => (intro hc; simp only [push_cast, seval, *]; rfl)); simp only [push_cast, seval, *])
    | fail)
  rename_i n2 h2
  generalize n = n4 at *
  have h4 : H n4 = none := hn.2
  have o42 : n4 ≠ n2 := hn.1.1
  have h6 : H n6 = none ∧ n6 ≠ n2 ∧ n6 ≠ n4 := by
    have q4 : n6 ≠ n4 := by rintro rfl; rw [upd_same] at hn6; cases hn6
    rw [upd_ne q4] at hn6
    have q2 : n6 ≠ n2 := by rintro rfl; rw [upd_same] at hn6; cases hn6
    rw [upd_ne q2] at hn6
    exact ⟨hn6, q2, q4⟩
  obtain ⟨B, hB⟩ : ∃ B : Heap, B = upd (upd H n4 (.r 47 3 1 [zL])) n6 (bm kI doM 3 M0) := ⟨_, rfl⟩
  have b4 : B n4 = some (.r 47 3 1 [zL]) := by rw [hB, upd_ne (Ne.symm h6.2.2), upd_same]
  have b6 : B n6 = some (bm kI doM 3 M0) := by rw [hB, upd_same]
  have b2 : B n2 = none := by rw [hB, upd_ne (Ne.symm h6.2.1), upd_ne (Ne.symm o42)]; exact h2
  have hle : Heap.le H B := by rw [hB]; exact Heap.le_new (Heap.le_new (Heap.le_refl _) h4) h6.1
  rw [show upd (upd (upd H n2 (.r 47 3 1 [[.c (.slice none 0 0), .c (.slice none 0 0), .c (.slice none 0 0)]])) n4 (.r 47 3 1 [[.c (.slice none 0 0), .c (.slice none 0 0), .c (.slice none 0 0)]])) n6 (bm kI doM 3 M0) = upd B n2 (.r 47 3 1 [zL]) from by
    rw [hB, upd_comm (Ne.symm o42), upd_comm (Ne.symm h6.2.1)]]
  refine AW_zero (upd_same _ _ _) ?_
  rw [upd_upd, hzz, show Lg.av l = Lg.av (f (row.take 0)) by rw [unhid hf0]]
  have hW : MW M0 doM := by
    intro x hx
    simp only [doM, List.mem_cons, List.not_mem_nil, or_false] at hx
    rcases hx with rfl | rfl | rfl <;> exact V.c _
  have o62 : n6 ≠ n2 := h6.2.1
  have o64 : n6 ≠ n4 := h6.2.2
  clear hB hn6 hn h6 hf0
  replace hle := Lib.hid hle
  replace hW := Lib.hid hW
  replace hz := Lib.hid hz
  refine AW_loopX (σ := Unit) row.length (fun k s => True) (fun k s => [(1, .l 7 (row.map Act.av)), (2, .p n2 3 0 0), (4, .p n4 3 0 0), (7, .c (.map (some n6))), (16, .l 7 (row.map Act.av)), (17, ci row.length), (18, ci k)]) (fun k s => upd B n2 (.r 47 3 1 [Lg.av (f (row.take k))])) () trivial ?_ ?_ ?_ ?_
  · (first | trivial | (simp only [push_cast, seval, *]; done))
  · exact Heap.le_refl _
  · rintro k ⟨⟩ hkk -
    have hkl : (k : Int) < row.length := by omega
    have hkw : IntKind.i64.wrap ((k : Int) + 1) = (k : Int) + 1 := wrap_i64 (by omega) (by omega)
    obtain ⟨x, hx⟩ : ∃ x, row[k]? = some x := ⟨_, List.getElem?_eq_getElem hkk⟩
    obtain ⟨fn, hlk, hrc, hcall⟩ := unhid hdd k x hx
    obtain ⟨c', hc'⟩ : ∃ c', c' = f (row.take (k + 1)) := ⟨_, rfl⟩
    rw [← hc'] at hcall ⊢
    generalize f (row.take k) = c at *
    obtain ⟨c1, c2, c3⟩ := c
    obtain ⟨d1, d2, d3⟩ := c'
    obtain ⟨kd, ⟨vs, va, vn⟩, ⟨rs, rk, rv⟩⟩ := x
    simp only [Lg.av, Act.av] at hcall hlk hrc ⊢
    replace hc' := Lib.hid hc'
    have hrc2 : kd = 2 ∨ (¬ kd = 2 ∧ rs = 0 ∧ rk = 0 ∧ rv = 0) := by
      by_cases h : kd = 2
      · exact .inl h
      · have := hrc h
        simp only [zRec, Rec.mk.injEq] at this
        exact .inr ⟨h, this⟩
    clear hrc
    replace hcall := Lib.hid hcall
    replace hlk := Lib.hid hlk
    have o6 := ne_old b6
    have o4 := ne_old b4
    rcases hrc2 with hk2 | ⟨hk2, r1, r2, r3⟩
    all_goals
      first | subst hk2 | skip
      repeat' (first
    | refine AW_seq_kn fun K hK => ?_
    | refine AW_block ?_
    | ((first
      | refine AW_region E0 ?_ | refine AW_ret ?_ | refine AW_exit ?_ | refine AW_skip ?_ | unfold retQ); try simp only [push_cast, seval, *])
    | ((first | (apply AW_cond; (case hc => (simp only [push_cast, seval]; rfl))) | (apply ER_guard; (case hb => (simp only [push_cast, seval]; rfl)))); all_goals ((intro hc; first | (exfalso; simp only [push_cast, seval, *] at hc; done) | (exact absurd hc (by decide)) | ((try first | rw [Bool.not_true] at hc | rw [Bool.not_false] at hc); first | (with_reducible replace hc := tTT hc); clear hc | (with_reducible replace hc := tFF hc); clear hc | (have hp := hc; try simp only [decide_eq_true_eq, decide_eq_false_iff_not, bA, bB, bC, bD, bE, bF, bG, bH] at hp))) <;> try simp only [push_cast, seval, *]))
    | (refine Kn.go hK ?_; clear hK K)
    | refine Kn.go (by assumption) ?_
    | (intro n hn; (try simp only [upd_none2, join_none_iff, ite_none, ne_eq] at hn); (try simp only [push_cast, seval, *]))
    | (intro hc)
    | (apply ER_blk; (case hp => rfl); (case hb => (simp only [push_cast, seval]; rfl)); (case hd => (simp only [push_cast, seval]; done)); (case h => (intro hc; simp only [push_cast, seval, *]; rfl)); simp only [push_cast, seval, *])
    | fail)
      refine does_lookupG (n := n6) (enc := kI) (l := doM) (c := 3) (M := M0) kkI rfl (by simp only [push_cast, seval, *]) (by simp only [push_cast, seval, upd_get, *]) (unhid hW) tU126 (unhid hz) (by simp only [push_cast, seval, *]; exact IsK.c _) (unhid hlk) ?_
      (try simp only [push_cast, seval, *])
      repeat' (first
    | refine AW_seq_kn fun K hK => ?_
    | refine AW_block ?_
    | ((first
      | refine AW_region E0 ?_ | refine AW_ret ?_ | refine AW_exit ?_ | refine AW_skip ?_ | unfold retQ); try simp only [push_cast, seval, *])
    | ((first | (apply AW_cond; (case hc => (simp only [push_cast, seval]; rfl))) | (apply ER_guard; (case hb => (simp only [push_cast, seval]; rfl)))); all_goals ((intro hc; first | (exfalso; simp only [push_cast, seval, *] at hc; done) | (exact absurd hc (by decide)) | ((try first | rw [Bool.not_true] at hc | rw [Bool.not_false] at hc); first | (with_reducible replace hc := tTT hc); clear hc | (with_reducible replace hc := tFF hc); clear hc | (have hp := hc; try simp only [decide_eq_true_eq, decide_eq_false_iff_not, bA, bB, bC, bD, bE, bF, bG, bH] at hp))) <;> try simp only [push_cast, seval, *]))
    | (refine Kn.go hK ?_; clear hK K)
    | refine Kn.go (by assumption) ?_
    | (intro n hn; (try simp only [upd_none2, join_none_iff, ite_none, ne_eq] at hn); (try simp only [push_cast, seval, *]))
    | (intro hc)
    | (apply ER_blk; (case hp => rfl); (case hb => (simp only [push_cast, seval]; rfl)); (case hd => (simp only [push_cast, seval]; done)); (case h => (intro hc; simp only [push_cast, seval, *]; rfl)); simp only [push_cast, seval, *])
    | fail)
      refine does_call (f := fn) rfl (by simp only [push_cast, seval, *]) ?_
      simp only [push_cast, seval, *]
      refine ACall.mono (by
        have h9 := unhid hcall
        (try simp only [push_cast, seval, *] at h9)
        exact h9 _) ?_
      (rintro _ _ ⟨rfl, e2⟩; have e3 := e2.symm; clear e2; subst e3)
      (try simp only [push_cast, seval, *])
      repeat' (first
    | refine AW_seq_kn fun K hK => ?_
    | refine AW_block ?_
    | ((first
      | refine AW_region E0 ?_ | refine AW_ret ?_ | refine AW_exit ?_ | refine AW_skip ?_ | unfold retQ); try simp only [push_cast, seval, *])
    | ((first | (apply AW_cond; (case hc => (simp only [push_cast, seval]; rfl))) | (apply ER_guard; (case hb => (simp only [push_cast, seval]; rfl)))); all_goals ((intro hc; first | (exfalso; simp only [push_cast, seval, *] at hc; done) | (exact absurd hc (by decide)) | ((try first | rw [Bool.not_true] at hc | rw [Bool.not_false] at hc); first | (with_reducible replace hc := tTT hc); clear hc | (with_reducible replace hc := tFF hc); clear hc | (have hp := hc; try simp only [decide_eq_true_eq, decide_eq_false_iff_not, bA, bB, bC, bD, bE, bF, bG, bH] at hp))) <;> try simp only [push_cast, seval, *]))
    | (refine Kn.go hK ?_; clear hK K)
    | refine Kn.go (by assumption) ?_
    | (intro n hn; (try simp only [upd_none2, join_none_iff, ite_none, ne_eq] at hn); (try simp only [push_cast, seval, *]))
    | (intro hc)
    | (apply ER_blk; (case hp => rfl); (case hb => (simp only [push_cast, seval]; rfl)); (case hd => (simp only [push_cast, seval]; done)); (case h => (intro hc; simp only [push_cast, seval, *]; rfl)); simp only [push_cast, seval, *])
    | fail)
      first | exact ⟨(), trivial, trivial, trivial⟩ | exact ⟨(), ⟨trivial, by (first | trivial | (simp only [push_cast, seval, *]; done)), by trivial⟩⟩
  · skip
    repeat' (first
    | refine AW_seq_kn fun K hK => ?_
    | refine AW_block ?_
    | ((first
      | refine AW_region E0 ?_ | refine AW_ret ?_ | refine AW_exit ?_ | refine AW_skip ?_ | unfold retQ); try simp only [push_cast, seval, *])
    | ((first | (apply AW_cond; (case hc => (simp only [push_cast, seval]; rfl))) | (apply ER_guard; (case hb => (simp only [push_cast, seval]; rfl)))); all_goals ((intro hc; first | (exfalso; simp only [push_cast, seval, *] at hc; done) | (exact absurd hc (by decide)) | ((try first | rw [Bool.not_true] at hc | rw [Bool.not_false] at hc); first | (with_reducible replace hc := tTT hc); clear hc | (with_reducible replace hc := tFF hc); clear hc | (have hp := hc; try simp only [decide_eq_true_eq, decide_eq_false_iff_not, bA, bB, bC, bD, bE, bF, bG, bH] at hp))) <;> try simp only [push_cast, seval, *]))
    | (refine Kn.go hK ?_; clear hK K)
    | refine Kn.go (by assumption) ?_
    | (intro n hn; (try simp only [upd_none2, join_none_iff, ite_none, ne_eq] at hn); (try simp only [push_cast, seval, *]))
    | (intro hc)
    | (apply ER_blk; (case hp => rfl); (case hb => (simp only [push_cast, seval]; rfl)); (case hd => (simp only [push_cast, seval]; done)); (case h => (intro hc; simp only [push_cast, seval, *]; rfl)); simp only [push_cast, seval, *])
    | fail)
    exact ⟨_, H, Weak.less (le_skip (le_skip (unhid hle) h2) h4), rfl, rfl⟩
end Go.Proofs.Ytdeckjoeggmagaa
