/- Operations told in plain logs. -/
import Derived.Test.YtdeckjoeggmagaaJ
import Derived.Test.YtdeckjoeggmagaaN
import Derived.Test.YtdeckjoeggmagaaO
namespace Go.Proofs.Ytdeckjoeggmagaa
open Go.RowKit
open Nat renaming reduceEqDiff → nA, reduceLT → nB, reduceLeDiff → nC, reduceAdd → nD, reduceMul → nE, reduceSub → nF, reduceBEq → nG
open Int renaming reduceToNat → iA, reduceLT → iB, reduceLE → iC, reduceEq → iD
open Bool renaming and_eq_true → bA, or_eq_true → bB, or_eq_false_iff → bC, and_eq_false_iff → bD, not_eq_true' → bE, not_eq_false' → bF, not_true → bG, not_false → bH
set_option linter.all false
set_option maxHeartbeats 4000000
attribute [local irreducible] AW Does ACall tE tS tB tZ
set_option maxRecDepth 5000

theorem opL {f : FuncId} {args args' : List AV} {l : Lg} {vs : List Value} {M : Heap} (hl : Lents M args args')
    (h : ACall Try.prog f args' emp fun r H' => ∃ y1 y2 y3, r = .t (gl y1 y2 y3 :: vs.map .c) ∧ OwnG y1 y2 y3 l H' emp) :
    ACall Try.prog f args M fun r H' => ∃ y1 y2 y3, r = .t (gl y1 y2 y3 :: vs.map .c) ∧ OwnG y1 y2 y3 l H' M := by
  have h2 := ACall.lendG (H := M) (args' := args') (args := args) (fun r G ⟨y1, y2, y3, e, ho⟩ => ⟨by
    rw [e]
    refine Flat.t (fun w hw => ?_)
    rcases List.mem_cons.1 hw with rfl | hw
    · exact (OwnG_flat ho).1
    · obtain ⟨u, -, rfl⟩ := List.mem_map.1 hw
      exact Flat.c _, (OwnG_flat ho).2 FlatH.none⟩) hl h
  refine h2.mono ?_
  rintro r H' ⟨G, rfl, hap, y1, y2, y3, e, ho⟩
  exact ⟨y1, y2, y3, e, OwnG_on ho hap⟩
theorem consts_imps {F F' : Mem} (hF : F.le F') : ∀ vs : List Value, Imps F F' (vs.map .c) (vs.map .c)
  | [] => Imps.nil
  | v :: vs => Imps.cons (Imp.refl hF _) id (consts_imps hF vs)
theorem OwnG.weak {y1 y2 y3 : AV} {l : Lg} {H H0 : Heap} (h : OwnG y1 y2 y3 l H H0) (vs : List Value) : Weak (.t (gl y1 y2 y3 :: vs.map .c)) H (.t (.g l.av :: vs.map .c)) H0 :=
  (OwnG_wp h).weak fun F F' hF hi => Imp.t (Imps.cons hi (fun h => by cases h) (consts_imps hF vs))
theorem opW {f : FuncId} {args : List AV} {l : Lg} {vs : List Value} {M : Heap}
    (h : ACall Try.prog f args M fun r H' => ∃ y1 y2 y3, r = .t (gl y1 y2 y3 :: vs.map .c) ∧ OwnG y1 y2 y3 l H' M) :
    ACall Try.prog f args M fun r H' => r = .t (.g l.av :: vs.map .c) ∧ H' = M :=
  ACall.weak (h.mono fun r H' ⟨y1, y2, y3, e, ho⟩ => ⟨_, M, e ▸ OwnG.weak ho vs, rfl, rfl⟩)
theorem Ready_p (l : Lg) (hf : l.fits) (v : Nm) : Pure Try.prog 55 [.g (Lg.av l), .g (Nm.av v)] (.t [.g (readyR l v).1.av, .c (.int .i64 (readyR l v).2)]) := fun H =>
  opW (vs := [.int .i64 (readyR l v).2]) (Ready_o l hf v H)
/-- with one name, or one record, that the caller owns -/
theorem Write_l1 (l : Lg) (hf : l.fits) (v : Nm) (r : Rec) {M : Heap} {m : Nat} (hm : M m = some (.r 36 3 1 [Rec.av r])) :
    ACall Try.prog 54 [.g (Lg.av l), .g (Nm.av v), .s m 3 0 1 1] M fun r' H' => r' = .t [.g (writeR l v [r]).1.av, .c (.int .i64 (writeR l v [r]).2)] ∧ H' = M :=
  opW (vs := [.int .i64 (writeR l v [r]).2]) (opL (args' := [.g (Lg.av l), .g (Nm.av v), .l 3 ([r].map Rec.av)]) (show Lent M _ _ ∧ Lent M _ _ ∧ Lent M _ _ ∧ True from ⟨Lent.refl _ _, Lent.refl _ _, Lent.s (rows := [Rec.av r]) hm, trivial⟩) (Write_o l hf v [r] (by simp) emp))
theorem Commit_l1 (l : Lg) (hf : l.fits) (v : Nm) {M : Heap} {m : Nat} (hm : M m = some (.r 26 3 1 [Nm.av v])) :
    ACall Try.prog 35 [.g (Lg.av l), .s m 3 0 1 1] M fun r' H' => r' = .t [.g (commitR l [v]).1.av, .c (.int .i64 (commitR l [v]).2)] ∧ H' = M :=
  opW (vs := [.int .i64 (commitR l [v]).2]) (opL (args' := [.g (Lg.av l), .l 3 ([v].map Nm.av)]) (show Lent M _ _ ∧ Lent M _ _ ∧ True from ⟨Lent.refl _ _, Lent.s (rows := [Nm.av v]) hm, trivial⟩) (Commit_o l hf [v] (by simp [maxLen]) emp))
theorem zL_lent (M : Heap) : Lent M (.g zL) (.g zeroL.av) := gl_lent (l := zeroL) (OwnL.nil M 0 5).lent (OwnL.nil M 0 3).lent (OwnL.nil M 0 3).lent
theorem zeroL_fits : zeroL.fits := ⟨⟨by simp [zeroL], by simp [zeroL], by simp [zeroL]⟩, by simp [zeroL]⟩
theorem Open_z (v : Nm) (M : Heap) : ACall Try.prog 48 [.g zL, .g (Nm.av v)] M fun r' H' => r' = .t [.g (openR zeroL v).1.av, .c (.int .i64 (openR zeroL v).2)] ∧ H' = M :=
  opW (vs := [.int .i64 (openR zeroL v).2]) (opL (args' := [.g (Lg.av zeroL), .g (Nm.av v)]) (show Lent M _ _ ∧ Lent M _ _ ∧ True from ⟨zL_lent M, Lent.refl _ _, trivial⟩) (Open_o zeroL zeroL_fits v emp))
def valsS (l : List Rec) (key : Rec) : List Int := (l.filter fun r => decide (cmpR r key = 0)).map Rec.v
theorem valsS_snoc {l : List Rec} {k : Nat} {x key : Rec} (hx : l[k]? = some x) : valsS (l.take (k + 1)) key = valsS (l.take k) key ++ if decide (cmpR x key = 0) = true then [x.v] else [] := by
  unfold valsS
  rw [take_snoc hx, List.filter_append, List.map_append]
  by_cases h : cmpR x key = 0 <;> simp [h]
theorem Values_o (l : Lg) (hf : l.fits) (key : Rec) (H : Heap) :
    ACall Try.prog 36 [.g (Lg.av l), .g (Rec.av key)] H fun r H' => OwnL H' r 2 1 ((valsS l.log key).map i1) H := by
  obtain ⟨a, b, c⟩ := l
  have hc := hf.1.2.2
  simp only at hc
  have hlv : ∀ k, (valsS (c.take k) key).length ≤ 1000000 := fun k => by
    unfold valsS
    rw [List.length_map]
    have := List.length_filter_le (fun r => decide (cmpR r key = 0)) (c.take k)
    have h2 : (c.take k).length ≤ c.length := by rw [List.length_take]; omega
    omega
  have hav : Lg.av ⟨a, b, c⟩ = [.l 5 (a.map Tx.av), .l 3 (b.map Nm.av), .l 3 (c.map Rec.av)] := rfl
  rw [hav]
  simp only
  have hkv : Rec.av key = [.c (.int .i64 key.s), .c (.int .i64 key.k), .c (.int .i64 key.v)] := rfl
  have hEc : ∀ x, cmpR x key = cmpR x ⟨key.s, key.k, key.v⟩ := fun x => rfl
  have hEt := tE70
  have hSt := tS2
  have hBt := tB2
  have hZt := tZ2
  clear hf hav
  replace hlv := Lib.hid hlv
  rw [hkv]
  refine ACall_of' Try.func36 rfl (Ent_of Try.func36 (by kernel_rfl) rfl) (by simp [Try.ntmps36]) ?_; simp only [Try.ntmps36, Try.results36]
  repeat' (first
    | refine AW_seq_kn fun K hK => ?_
    | refine AW_block ?_
    | (refine does_call rfl rfl ?_; simp only [push_cast, seval, *]; refine ACall.monoP (sameKey_p ⟨_, _, _⟩ ⟨_, _, _⟩ _) ?_; (try simp only [push_cast, seval, *]))
    | ((first
      | refine AW_region E0 ?_ | refine AW_ret ?_ | refine AW_exit ?_ | refine AW_skip ?_ | unfold retQ); try simp only [push_cast, seval, *])
    | (apply AW_cond; (case hc => (simp only [push_cast, seval]; rfl)); all_goals (intro hc; first | (exfalso; simp only [push_cast, seval, *] at hc; done) | (exact absurd hc (by decide)) | ((try first | rw [Bool.not_true] at hc | rw [Bool.not_false] at hc); first | (with_reducible replace hc := tTT hc); clear hc | (with_reducible replace hc := tFF hc); clear hc | (have hp := hc; try simp only [decide_eq_true_eq, decide_eq_false_iff_not, bA, bB, bC, bD, bE, bF, bG, bH] at hp))))
    | (refine Kn.go hK ?_; clear hK K)
    | refine Kn.go (by assumption) ?_
    | (intro n hn; (try simp only [upd_none2, join_none_iff, ite_none, ne_eq] at hn); (try simp only [push_cast, seval, *]))
    | (intro hc)
    | fail)
  rename_i n1 h1
  generalize n = n2 at *
  obtain ⟨G, hG⟩ : ∃ G : Heap, G = upd (upd H n1 (.r 47 3 1 [[.l 5 (a.map Tx.av), .l 3 (b.map Nm.av), .l 3 (c.map Rec.av)]])) n2 (.r 36 3 1 [[.c (.int .i64 key.s), .c (.int .i64 key.k), .c (.int .i64 key.v)]]) := ⟨_, rfl⟩
  have g2 : G n2 = some (.r 36 3 1 [[.c (.int .i64 key.s), .c (.int .i64 key.k), .c (.int .i64 key.v)]]) := by rw [hG, upd_same]
  have hle : Heap.le H G := by rw [hG]; exact le_new2 h1 hn.2 hn.1.1
  rw [← hG]
  clear hG h1 hn
  refine AW_loopX (σ := AV × Heap) c.length (fun k s => OwnL s.2 s.1 2 1 ((valsS (c.take k) key).map i1) G) (fun k s => [(3, .p n2 3 0 0), (5, s.1), (9, .l 3 (c.map Rec.av)), (10, ci c.length), (11, ci k)]) (fun _ s => s.2) (.c (.slice none 0 0), G) (OwnL.nil _ _ _) ?_ ?_ ?_ ?_
  · (first | trivial | (simp only [push_cast, seval, *]; done))
  · exact Heap.le_refl _
  · rintro k ⟨z, Hs⟩ hk ho
    simp only at ho
    have hx := List.getElem?_eq_getElem (l := c) hk; generalize c[k] = x at hx; have hxm := List.mem_of_getElem? hx; have hkl : (k : Int) < c.length := (by omega); have hkw : IntKind.i64.wrap ((k : Int) + 1) = (k : Int) + 1 := wrap_i64 (by omega) (by omega)
    have hlk := unhid hlv k
    have hsn := valsS_snoc (key := key) hx
    have hsk := sameKey_p x key
    have k2 := ho.get g2
    have o2 := ne_old k2
    have zcs := ho.cs
    have zone := ho.one
    obtain ⟨s, kk, v⟩ := x
    have hrv : Rec.av ⟨s, kk, v⟩ = [.c (.int .i64 s), .c (.int .i64 kk), .c (.int .i64 v)] := rfl
    generalize decide (cmpR ⟨s, kk, v⟩ key = 0) = B at hsn hsk
    simp only at hsn
    rw [hrv, hkv] at hsk
    replace ho := Lib.hid ho
    clear hxm
    cases B
    · rw [if_neg (by decide), List.append_nil] at hsn
      replace hsn := Lib.hid hsn
      repeat' (first
    | refine AW_seq_kn fun K hK => ?_
    | refine AW_block ?_
    | (refine does_call rfl rfl ?_; simp only [push_cast, seval, *]; refine ACall.monoP (hsk _) ?_; (try simp only [push_cast, seval, *]))
    | (refine does_call rfl rfl ?_; simp only [push_cast, seval, *]; refine ACall.monoP (sameKey_p ⟨_, _, _⟩ ⟨_, _, _⟩ _) ?_; (try simp only [push_cast, seval, *]))
    | ((first
      | refine AW_region E0 ?_ | refine AW_ret ?_ | refine AW_exit ?_ | refine AW_skip ?_ | unfold retQ); try simp only [push_cast, seval, *])
    | (apply AW_cond; (case hc => (simp only [push_cast, seval]; rfl)); all_goals (intro hc; first | (exfalso; simp only [push_cast, seval, *] at hc; done) | (exact absurd hc (by decide)) | ((try first | rw [Bool.not_true] at hc | rw [Bool.not_false] at hc); first | (with_reducible replace hc := tTT hc); clear hc | (with_reducible replace hc := tFF hc); clear hc | (have hp := hc; try simp only [decide_eq_true_eq, decide_eq_false_iff_not, bA, bB, bC, bD, bE, bF, bG, bH] at hp))))
    | (refine Kn.go hK ?_; clear hK K)
    | refine Kn.go (by assumption) ?_
    | (intro n hn; (try simp only [upd_none2, join_none_iff, ite_none, ne_eq] at hn); (try simp only [push_cast, seval, *]))
    | (intro hc)
    | fail)
      exact ⟨(z, Hs), by rw [unhid hsn]; exact unhid ho, by (first | trivial | (simp only [push_cast, seval, *]; done)), by first | trivial | (repeat' (first | exact Heap.le_refl _ | refine hle_upd2 ?_ _ _ | (refine Heap.le_new ?_ ?_; rotate_left 1; focus (first | assumption | (simp only [upd_none2, upd_get, ne_eq, push_cast, seval, *]; done) | (simp [upd_get, *]; done)))))⟩
    · rw [if_pos rfl] at hsn
      replace hsn := Lib.hid hsn
      repeat' (first
    | refine AW_seq_kn fun K hK => ?_
    | refine AW_block ?_
    | (refine does_call rfl rfl ?_; simp only [push_cast, seval, *]; refine ACall.monoP (hsk _) ?_; (try simp only [push_cast, seval, *]))
    | (refine does_call rfl rfl ?_; simp only [push_cast, seval, *]; refine ACall.monoP (sameKey_p ⟨_, _, _⟩ ⟨_, _, _⟩ _) ?_; (try simp only [push_cast, seval, *]))
    | ((first
      | refine AW_region E0 ?_ | refine AW_ret ?_ | refine AW_exit ?_ | refine AW_skip ?_ | unfold retQ); try simp only [push_cast, seval, *])
    | (apply AW_cond; (case hc => (simp only [push_cast, seval]; rfl)); all_goals (intro hc; first | (exfalso; simp only [push_cast, seval, *] at hc; done) | (exact absurd hc (by decide)) | ((try first | rw [Bool.not_true] at hc | rw [Bool.not_false] at hc); first | (with_reducible replace hc := tTT hc); clear hc | (with_reducible replace hc := tFF hc); clear hc | (have hp := hc; try simp only [decide_eq_true_eq, decide_eq_false_iff_not, bA, bB, bC, bD, bE, bF, bG, bH] at hp))))
    | (refine Kn.go hK ?_; clear hK K)
    | refine Kn.go (by assumption) ?_
    | (intro n hn; (try simp only [upd_none2, join_none_iff, ite_none, ne_eq] at hn); (try simp only [push_cast, seval, *]))
    | (intro hc)
    | fail)
      rename_i n7 h7
      refine does_app1 rfl rfl rfl rfl ((Loc.own _ _ _ _).new (unhid ho) h7 _) (by simp only [upd_none2, push_cast, seval, *]) hEt hSt hBt hZt rfl (by decide) ?_ ?_ ?_
      · simp only [List.length_map, maxLen]; omega
      · simp only [List.length_map]; omega
      intro z2 H2 hz2
      have zcs2 := hz2.cs
      have zone2 := hz2.one
      have e2 : (valsS (c.take k) key).map i1 ++ [[.c (.int .i64 v)]] = (valsS (c.take (k + 1)) key).map i1 := by rw [unhid hsn, List.map_append]; rfl
      rw [e2] at hz2
      obtain ⟨H3, l1, l2⟩ := (Loc.own _ _ _ _).cut hz2 (K := G) (le_upd_new ((Loc.own _ _ _ _).old (unhid ho) h7))
      replace l1 := Lib.hid l1
      replace l2 := Lib.hid l2
      clear hz2
      (try simp only [push_cast, seval, *])
      repeat' (first
    | refine AW_seq_kn fun K hK => ?_
    | refine AW_block ?_
    | (refine does_call rfl rfl ?_; simp only [push_cast, seval, *]; refine ACall.monoP (sameKey_p ⟨_, _, _⟩ ⟨_, _, _⟩ _) ?_; (try simp only [push_cast, seval, *]))
    | ((first
      | refine AW_region E0 ?_ | refine AW_ret ?_ | refine AW_exit ?_ | refine AW_skip ?_ | unfold retQ); try simp only [push_cast, seval, *])
    | (apply AW_cond; (case hc => (simp only [push_cast, seval]; rfl)); all_goals (intro hc; first | (exfalso; simp only [push_cast, seval, *] at hc; done) | (exact absurd hc (by decide)) | ((try first | rw [Bool.not_true] at hc | rw [Bool.not_false] at hc); first | (with_reducible replace hc := tTT hc); clear hc | (with_reducible replace hc := tFF hc); clear hc | (have hp := hc; try simp only [decide_eq_true_eq, decide_eq_false_iff_not, bA, bB, bC, bD, bE, bF, bG, bH] at hp))))
    | (refine Kn.go hK ?_; clear hK K)
    | refine Kn.go (by assumption) ?_
    | (intro n hn; (try simp only [upd_none2, join_none_iff, ite_none, ne_eq] at hn); (try simp only [push_cast, seval, *]))
    | (intro hc)
    | fail)
      exact ⟨(z2, H3), unhid l2, by (first | trivial | (simp only [push_cast, seval, *]; done)), unhid l1⟩
  · rintro ⟨z, Hs⟩ ho
    simp only [List.take_length] at ho
    obtain ⟨H3, l1, l2⟩ := (Loc.own _ _ _ _).cut ho hle
    replace l1 := Lib.hid l1
    replace l2 := Lib.hid l2
    clear ho
    repeat' (first
    | refine AW_seq_kn fun K hK => ?_
    | refine AW_block ?_
    | (refine does_call rfl rfl ?_; simp only [push_cast, seval, *]; refine ACall.monoP (sameKey_p ⟨_, _, _⟩ ⟨_, _, _⟩ _) ?_; (try simp only [push_cast, seval, *]))
    | ((first
      | refine AW_region E0 ?_ | refine AW_ret ?_ | refine AW_exit ?_ | refine AW_skip ?_ | unfold retQ); try simp only [push_cast, seval, *])
    | (apply AW_cond; (case hc => (simp only [push_cast, seval]; rfl)); all_goals (intro hc; first | (exfalso; simp only [push_cast, seval, *] at hc; done) | (exact absurd hc (by decide)) | ((try first | rw [Bool.not_true] at hc | rw [Bool.not_false] at hc); first | (with_reducible replace hc := tTT hc); clear hc | (with_reducible replace hc := tFF hc); clear hc | (have hp := hc; try simp only [decide_eq_true_eq, decide_eq_false_iff_not, bA, bB, bC, bD, bE, bF, bG, bH] at hp))))
    | (refine Kn.go hK ?_; clear hK K)
    | refine Kn.go (by assumption) ?_
    | (intro n hn; (try simp only [upd_none2, join_none_iff, ite_none, ne_eq] at hn); (try simp only [push_cast, seval, *]))
    | (intro hc)
    | fail)
    exact ⟨_, H3, Weak.less (unhid l1), unhid l2⟩
theorem Values_p (l : Lg) (hf : l.fits) (key : Rec) : Pure Try.prog 36 [.g (Lg.av l), .g (Rec.av key)] (.l 1 ((valsS l.log key).map i1)) := fun H =>
  ACall.weak ((Values_o l hf key H).mono fun r H' h => ⟨_, _, h.weak (fun F F' hF hi _ => hi), rfl, rfl⟩)
end Go.Proofs.Ytdeckjoeggmagaa
