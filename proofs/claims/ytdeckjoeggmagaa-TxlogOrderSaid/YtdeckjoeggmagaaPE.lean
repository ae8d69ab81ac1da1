/- Walks: which transactions of a sink wait. -/
import Derived.Test.YtdeckjoeggmagaaP
namespace Go.Proofs.Ytdeckjoeggmagaa
open Go.RowKit
open Nat renaming reduceEqDiff → nA, reduceLT → nB, reduceLeDiff → nC, reduceAdd → nD, reduceMul → nE, reduceSub → nF, reduceBEq → nG
open Int renaming reduceToNat → iA, reduceLT → iB, reduceLE → iC, reduceEq → iD
open Bool renaming and_eq_true → bA, or_eq_true → bB, or_eq_false_iff → bC, and_eq_false_iff → bD, not_eq_true' → bE, not_eq_false' → bF, not_true → bG, not_false → bH
set_option linter.all false
set_option maxHeartbeats 4000000
attribute [local irreducible] AW Does ACall tE tS tB tZ
set_option maxRecDepth 5000

def pendB (sink : Int) (t : Tx) : Bool := decide (t.nm.s = sink) && decide (t.st = 2)
def pendS (l : List Tx) (sink : Int) : List Nm := (l.filter (pendB sink)).map Tx.nm
theorem pendS_snoc {l : List Tx} {k : Nat} {x : Tx} {sink : Int} (hx : l[k]? = some x) : pendS (l.take (k + 1)) sink = pendS (l.take k) sink ++ if pendB sink x = true then [x.nm] else [] := by
  unfold pendS
  rw [take_snoc hx, List.filter_append, List.map_append]
  cases h : pendB sink x <;> simp [h]
theorem Pending_o (l : Lg) (hf : l.txs.length ≤ 1000000) (sink : Int) (H : Heap) :
    ACall Try.prog 37 [.g (Lg.av l), .c (.int .i64 sink)] H fun r H' => OwnL H' r 26 3 ((pendS l.txs sink).map Nm.av) H := by
  obtain ⟨a, b, c⟩ := l
  simp only at hf
  have hlv : ∀ k, (pendS (a.take k) sink).length ≤ 1000000 := fun k => by
    unfold pendS
    rw [List.length_map]
    have := List.length_filter_le (pendB sink) (a.take k)
    have h2 : (a.take k).length ≤ a.length := by rw [List.length_take]; omega
    omega
  simp only [Lg.av]
  have hEt := tE22
  have hSt := tS26
  have hBt := tB26
  have hZt := tZ26
  replace hlv := Lib.hid hlv
  refine ACall_of' Try.func37 rfl (Ent_of Try.func37 (by kernel_rfl) rfl) (by simp [Try.ntmps37]) ?_; simp only [Try.ntmps37, Try.results37]
  repeat' (first
    | refine AW_seq_kn fun K hK => ?_
    | refine AW_block ?_
    | ((first
      | refine AW_region E0 ?_ | refine AW_ret ?_ | refine AW_exit ?_ | refine AW_skip ?_ | unfold retQ); try simp only [push_cast, seval, *])
    | ((first | (apply AW_cond; (case hc => (simp only [push_cast, seval]; rfl))) | (apply ER_guard; (case hb => (simp only [push_cast, seval]; rfl)))); all_goals ((intro hc; first | (exfalso; simp only [push_cast, seval, *] at hc; done) | (exact absurd hc (by decide)) | ((try first | rw [Bool.not_true] at hc | rw [Bool.not_false] at hc); first | (with_reducible replace hc := tTT hc); clear hc | (with_reducible replace hc := tFF hc); clear hc | (have hp := hc; try simp only [decide_eq_true_eq, decide_eq_false_iff_not, bA, bB, bC, bD, bE, bF, bG, bH] at hp))) <;> try simp only [push_cast, seval, *]))
    | (refine Kn.go hK ?_; clear hK K)
    | refine Kn.go (by assumption) ?_
    | (intro n hn; (try simp only [upd_none2, join_none_iff, ite_none, ne_eq] at hn); (try simp only [push_cast, seval, *]))
    | (intro hc)
    | (apply ER_blk; (case hp => rfl); (case hb => (simp only [push_cast, seval]; rfl)); (case hd => (simp only [push_cast, seval]; done)); (case h => (intro hc; simp only [push_cast, seval, *]; rfl)); simp only [push_cast, seval, *])
    | fail)
  generalize n = n2 at *
  obtain ⟨G, hG⟩ : ∃ G : Heap, G = upd H n2 (.r 47 3 1 [[.l 5 (a.map Tx.av), .l 3 (b.map Nm.av), .l 3 (c.map Rec.av)]]) := ⟨_, rfl⟩
  have hle : Heap.le H G := by rw [hG]; exact le_upd_new hn
  rw [← hG]
  clear hG hn
  replace hle := Lib.hid hle
  refine AW_loopX (σ := AV × Heap) a.length (fun k s => OwnL s.2 s.1 26 3 ((pendS (a.take k) sink).map Nm.av) G) (fun k s => [(1, .c (.int .i64 sink)), (5, s.1), (9, .l 5 (a.map Tx.av)), (10, ci a.length), (11, ci k)]) (fun _ s => s.2) (.c (.slice none 0 0), G) (OwnL.nil _ _ _) ?_ ?_ ?_ ?_
  · (first | trivial | (simp only [push_cast, seval, *]; done))
  · exact Heap.le_refl _
  · rintro k ⟨z, Hs⟩ hk ho
    simp only at ho
    have hx := List.getElem?_eq_getElem (l := a) hk; generalize a[k] = x at hx; have hxm := List.mem_of_getElem? hx; have hkl : (k : Int) < a.length := (by omega); have hkw : IntKind.i64.wrap ((k : Int) + 1) = (k : Int) + 1 := wrap_i64 (by omega) (by omega)
    have hlk := unhid hlv k
    have hsn := pendS_snoc (sink := sink) hx
    have zcs := ho.cs
    have zone := ho.one
    obtain ⟨⟨x1, x2, x3⟩, st, rs⟩ := x
    unfold pendB at hsn
    simp only at hsn
    generalize pendS (a.take k) sink = R at *
    generalize pendS (a.take (k + 1)) sink = R2 at *
    replace ho := Lib.hid ho
    by_cases hc : x1 = sink ∧ st = 2
    · obtain ⟨rfl, rfl⟩ := hc
      simp only [decide_true, Bool.and_self, if_true] at hsn
      subst hsn
      repeat' (first
    | refine AW_seq_kn fun K hK => ?_
    | refine AW_block ?_
    | ((first
      | refine AW_region E0 ?_ | refine AW_ret ?_ | refine AW_exit ?_ | refine AW_skip ?_ | unfold retQ); try simp only [push_cast, seval, *])
    | ((first | (apply AW_cond; (case hc => (simp only [push_cast, seval]; rfl))) | (apply ER_guard; (case hb => (simp only [push_cast, seval]; rfl)))); all_goals ((intro hc; first | (exfalso; simp only [push_cast, seval, *] at hc; done) | (exact absurd hc (by decide)) | ((try first | rw [Bool.not_true] at hc | rw [Bool.not_false] at hc); first | (with_reducible replace hc := tTT hc); clear hc | (with_reducible replace hc := tFF hc); clear hc | (have hp := hc; try simp only [decide_eq_true_eq, decide_eq_false_iff_not, bA, bB, bC, bD, bE, bF, bG, bH] at hp))) <;> try simp only [push_cast, seval, *]))
    | (refine Kn.go hK ?_; clear hK K)
    | refine Kn.go (by assumption) ?_
    | (intro n hn; (try simp only [upd_none2, join_none_iff, ite_none, ne_eq] at hn); (try simp only [push_cast, seval, *]))
    | (intro hc)
    | (apply ER_blk; (case hp => rfl); (case hb => (simp only [push_cast, seval]; rfl)); (case hd => (simp only [push_cast, seval]; done)); (case h => (intro hc; simp only [push_cast, seval, *]; rfl)); simp only [push_cast, seval, *])
    | fail)
      rename_i n7 h7
      refine does_app1 rfl rfl rfl rfl ((Loc.own _ _ _ _).new (unhid ho) h7 _) (by simp only [upd_none2, push_cast, seval, *]) hEt hSt hBt hZt rfl (by decide) (by simp only [List.length_map, maxLen]; omega) (by simp only [List.length_map]; omega) ?_
      intro z2 H2 hz2
      have zcs2 := hz2.cs
      have zone2 := hz2.one
      obtain ⟨H3, l1, l2⟩ := (Loc.own _ _ _ _).cut hz2 (K := G) (le_upd_new ((Loc.own _ _ _ _).old (unhid ho) h7))
      have l2' : OwnL H3 z2 26 3 ((R ++ [(⟨x1, x2, x3⟩ : Nm)]).map Nm.av) G := by rw [List.map_append]; exact l2
      replace l1 := Lib.hid l1
      replace l2' := Lib.hid l2'
      clear hz2 l2 zcs zone
      (try simp only [push_cast, seval, *])
      repeat' (first
    | refine AW_seq_kn fun K hK => ?_
    | refine AW_block ?_
    | ((first
      | refine AW_region E0 ?_ | refine AW_ret ?_ | refine AW_exit ?_ | refine AW_skip ?_ | unfold retQ); try simp only [push_cast, seval, *])
    | ((first | (apply AW_cond; (case hc => (simp only [push_cast, seval]; rfl))) | (apply ER_guard; (case hb => (simp only [push_cast, seval]; rfl)))); all_goals ((intro hc; first | (exfalso; simp only [push_cast, seval, *] at hc; done) | (exact absurd hc (by decide)) | ((try first | rw [Bool.not_true] at hc | rw [Bool.not_false] at hc); first | (with_reducible replace hc := tTT hc); clear hc | (with_reducible replace hc := tFF hc); clear hc | (have hp := hc; try simp only [decide_eq_true_eq, decide_eq_false_iff_not, bA, bB, bC, bD, bE, bF, bG, bH] at hp))) <;> try simp only [push_cast, seval, *]))
    | (refine Kn.go hK ?_; clear hK K)
    | refine Kn.go (by assumption) ?_
    | (intro n hn; (try simp only [upd_none2, join_none_iff, ite_none, ne_eq] at hn); (try simp only [push_cast, seval, *]))
    | (intro hc)
    | (apply ER_blk; (case hp => rfl); (case hb => (simp only [push_cast, seval]; rfl)); (case hd => (simp only [push_cast, seval]; done)); (case h => (intro hc; simp only [push_cast, seval, *]; rfl)); simp only [push_cast, seval, *])
    | fail)
      exact ⟨(z2, H3), unhid l2', by (first | trivial | (simp only [push_cast, seval, *]; done)), unhid l1⟩
    · have hcd : (decide (x1 = sink) && decide (st = 2)) = false := by rw [← Bool.not_eq_true]; simp only [Bool.and_eq_true, decide_eq_true_eq]; exact hc
      rw [hcd] at hsn
      simp only [Bool.false_eq_true, if_false, List.append_nil] at hsn
      subst hsn
      have hcc : ¬ x1 = sink ∨ (x1 = sink ∧ ¬ st = 2) := by
        by_cases e : x1 = sink
        · exact .inr ⟨e, fun q => hc ⟨e, q⟩⟩
        · exact .inl e
      clear hc hcd
      rcases hcc with e | ⟨rfl, e⟩
      all_goals
        repeat' (first
    | refine AW_seq_kn fun K hK => ?_
    | refine AW_block ?_
    | ((first
      | refine AW_region E0 ?_ | refine AW_ret ?_ | refine AW_exit ?_ | refine AW_skip ?_ | unfold retQ); try simp only [push_cast, seval, *])
    | ((first | (apply AW_cond; (case hc => (simp only [push_cast, seval]; rfl))) | (apply ER_guard; (case hb => (simp only [push_cast, seval]; rfl)))); all_goals ((intro hc; first | (exfalso; simp only [push_cast, seval, *] at hc; done) | (exact absurd hc (by decide)) | ((try first | rw [Bool.not_true] at hc | rw [Bool.not_false] at hc); first | (with_reducible replace hc := tTT hc); clear hc | (with_reducible replace hc := tFF hc); clear hc | (have hp := hc; try simp only [decide_eq_true_eq, decide_eq_false_iff_not, bA, bB, bC, bD, bE, bF, bG, bH] at hp))) <;> try simp only [push_cast, seval, *]))
    | (refine Kn.go hK ?_; clear hK K)
    | refine Kn.go (by assumption) ?_
    | (intro n hn; (try simp only [upd_none2, join_none_iff, ite_none, ne_eq] at hn); (try simp only [push_cast, seval, *]))
    | (intro hc)
    | (apply ER_blk; (case hp => rfl); (case hb => (simp only [push_cast, seval]; rfl)); (case hd => (simp only [push_cast, seval]; done)); (case h => (intro hc; simp only [push_cast, seval, *]; rfl)); simp only [push_cast, seval, *])
    | fail)
        first | exact ⟨(z, Hs), unhid ho, by (first | trivial | (simp only [push_cast, seval, *]; done)), by (repeat' (first | exact Heap.le_refl _ | refine hle_upd2 ?_ _ _ | (refine Heap.le_new ?_ ?_; rotate_left 1; focus (first | assumption | (simp only [upd_none2, upd_get, ne_eq, push_cast, seval, *]; done) | (simp [upd_get, *]; done)))))⟩ | exact ⟨(z, Hs), unhid ho, trivial, trivial⟩
  · rintro ⟨z, Hs⟩ ho
    simp only [List.take_length] at ho
    obtain ⟨H3, l1, l2⟩ := (Loc.own _ _ _ _).cut ho (unhid hle)
    have zcs := ho.cs
    replace l1 := Lib.hid l1
    replace l2 := Lib.hid l2
    clear ho
    repeat' (first
    | refine AW_seq_kn fun K hK => ?_
    | refine AW_block ?_
    | ((first
      | refine AW_region E0 ?_ | refine AW_ret ?_ | refine AW_exit ?_ | refine AW_skip ?_ | unfold retQ); try simp only [push_cast, seval, *])
    | ((first | (apply AW_cond; (case hc => (simp only [push_cast, seval]; rfl))) | (apply ER_guard; (case hb => (simp only [push_cast, seval]; rfl)))); all_goals ((intro hc; first | (exfalso; simp only [push_cast, seval, *] at hc; done) | (exact absurd hc (by decide)) | ((try first | rw [Bool.not_true] at hc | rw [Bool.not_false] at hc); first | (with_reducible replace hc := tTT hc); clear hc | (with_reducible replace hc := tFF hc); clear hc | (have hp := hc; try simp only [decide_eq_true_eq, decide_eq_false_iff_not, bA, bB, bC, bD, bE, bF, bG, bH] at hp))) <;> try simp only [push_cast, seval, *]))
    | (refine Kn.go hK ?_; clear hK K)
    | refine Kn.go (by assumption) ?_
    | (intro n hn; (try simp only [upd_none2, join_none_iff, ite_none, ne_eq] at hn); (try simp only [push_cast, seval, *]))
    | (intro hc)
    | (apply ER_blk; (case hp => rfl); (case hb => (simp only [push_cast, seval]; rfl)); (case hd => (simp only [push_cast, seval]; done)); (case h => (intro hc; simp only [push_cast, seval, *]; rfl)); simp only [push_cast, seval, *])
    | fail)
    exact ⟨_, H3, Weak.less (unhid l1), unhid l2⟩
end Go.Proofs.Ytdeckjoeggmagaa
