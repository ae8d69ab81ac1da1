/- Walks: a copy of a table is changed; Put. -/
import Derived.Test.YtmkncbddjnaklaaTD
namespace Go.Proofs.Ytmkncbddjnaklaa
open Go.RowKit
open Nat renaming reduceEqDiff → nA, reduceLT → nB, reduceLeDiff → nC, reduceAdd → nD, reduceMul → nE, reduceSub → nF, reduceBEq → nG
open Int renaming reduceToNat → iA, reduceLT → iB, reduceLE → iC, reduceEq → iD
open Bool renaming and_eq_true → bA, or_eq_true → bB, or_eq_false_iff → bC, and_eq_false_iff → bD, not_eq_true' → bE, not_eq_false' → bF, not_true → bG, not_false → bH
set_option linter.all false
set_option maxHeartbeats 4000000
attribute [local irreducible] AW Does ACall tE tS tB tZ

theorem kclone_o (l : List KC) (hl : l.length ≤ 1000000) (H : Heap) : ACall Try.prog 108 [.l 4 (l.map KC.av)] H fun r H' => OwnL H' r 80 4 (l.map KC.av) H := by
  have hE24 := tE47
  refine ACall_of' Try.func108 rfl (Ent_of Try.func108 (by kernel_rfl) rfl) (by simp [Try.ntmps108]) ?_; simp only [Try.ntmps108, Try.results108]
  repeat' (first
    | refine AW_seq_kn fun K hK => ?_
    | refine AW_block ?_
    | (refine does_isnil_l rfl rfl rfl hE24 ?_; intro b hb; (try simp only [push_cast, seval, *]))
    | ((first
      | refine AW_region E0 ?_ | refine AW_ret ?_ | refine AW_exit ?_ | refine AW_skip ?_ | unfold retQ); try simp only [push_cast, seval, *])
    | (apply AW_cond; (case hc => (simp only [push_cast, seval]; rfl)); all_goals (intro hc; first | (exfalso; simp only [push_cast, seval, *] at hc; done) | (exact absurd hc (by decide)) | ((try first | rw [Bool.not_true] at hc | rw [Bool.not_false] at hc); first | (with_reducible replace hc := tTT hc); clear hc | (with_reducible replace hc := tFF hc); clear hc | (have hp := hc; try simp only [decide_eq_true_eq, decide_eq_false_iff_not, bA, bB, bC, bD, bE, bF, bG, bH] at hp))))
    | (refine Kn.go hK ?_; clear hK K)
    | refine Kn.go (by assumption) ?_
    | (intro n hn; (try simp only [upd_none2, join_none_iff, ite_none, ne_eq] at hn); (try simp only [push_cast, seval, *]))
    | (intro hc)
    | fail)
  · refine ⟨_, _, Weak.refl _ _, .inl ⟨⟨_, rfl⟩, by first | rfl | exact hb hc, rfl⟩⟩
  · have hown : OwnL (upd H n (.r 80 4 0 [])) (.s n 4 0 0 0) 80 4 [] H := .inr ⟨n, 0, rfl, upd_same _ _ _, (del_upd_same hn).symm⟩
    refine does_appL rfl rfl rfl hown tE47 tS80 tB80 tZ80 rfl (by decide) ?_ ?_ ?_
    · simp only [List.length_map, List.length_nil, maxLen]; omega
    · simp only [List.length_map, List.length_nil]; omega
    intro x' H' hown'
    have hcs' := hown'.cs
    (try simp only [push_cast, seval, *])
    repeat' (first
    | refine AW_seq_kn fun K hK => ?_
    | refine AW_block ?_
    | ((first
      | refine AW_region E0 ?_ | refine AW_ret ?_ | refine AW_exit ?_ | refine AW_skip ?_ | unfold retQ); try simp only [push_cast, seval, *])
    | (apply AW_cond; (case hc => (simp only [push_cast, seval]; rfl)); all_goals (intro hc; first | (exfalso; simp only [push_cast, seval, *] at hc; done) | (exact absurd hc (by decide)) | ((try first | rw [Bool.not_true] at hc | rw [Bool.not_false] at hc); first | (with_reducible replace hc := tTT hc); clear hc | (with_reducible replace hc := tFF hc); clear hc | (have hp := hc; try simp only [decide_eq_true_eq, decide_eq_false_iff_not, bA, bB, bC, bD, bE, bF, bG, bH] at hp))))
    | (refine Kn.go hK ?_; clear hK K)
    | refine Kn.go (by assumption) ?_
    | (intro n hn; (try simp only [upd_none2, join_none_iff, ite_none, ne_eq] at hn); (try simp only [push_cast, seval, *]))
    | (intro hc)
    | fail)
    exact ⟨_, _, Weak.refl _ _, by simpa using hown'⟩
theorem kclone_p (l : List KC) (hl : l.length ≤ 1000000) : Pure Try.prog 108 [.l 4 (l.map KC.av)] (.l 4 (l.map KC.av)) := fun H =>
  ACall.weak ((kclone_o l hl H).mono fun r H' h => ⟨_, _, h.weak (fun F F' hF hi _ => hi), rfl, rfl⟩)

theorem with_no (l : List KC) (hl : l.length ≤ maxLen) (hok : tOk l = false) (gf : FuncId) (caps : List AV) (H : Heap) :
    ACall Try.prog 68 [.g [.l 4 (l.map KC.av)], .f (.func gf) [] caps] H fun r H' => r = .t [.g [.c (.slice none 0 0)], .c (.int .i64 220)] ∧ H' = H := by
  have hch := tcheck_p l hl
  rw [hok] at hch
  simp only [Bool.false_eq_true, if_false, vE220] at hch
  refine ACall_of' Try.func68 rfl (Ent_of Try.func68 (by kernel_rfl) rfl) (by simp [Try.ntmps68]) ?_; simp only [Try.ntmps68, Try.results68]
  repeat' (first
    | refine AW_seq_kn fun K hK => ?_
    | refine AW_block ?_
    | (refine does_call rfl rfl ?_; simp only [push_cast, seval, *]; refine ACall.monoP (hch _) ?_; (try simp only [push_cast, seval, *]))
    | ((first
      | refine AW_region E0 ?_ | refine AW_ret ?_ | refine AW_exit ?_ | refine AW_skip ?_ | unfold retQ); try simp only [push_cast, seval, *])
    | (apply AW_cond; (case hc => (simp only [push_cast, seval]; rfl)); all_goals (intro hc; first | (exfalso; simp only [push_cast, seval, *] at hc; done) | (exact absurd hc (by decide)) | ((try first | rw [Bool.not_true] at hc | rw [Bool.not_false] at hc); first | (with_reducible replace hc := tTT hc); clear hc | (with_reducible replace hc := tFF hc); clear hc | (have hp := hc; try simp only [decide_eq_true_eq, decide_eq_false_iff_not, bA, bB, bC, bD, bE, bF, bG, bH] at hp))))
    | (refine Kn.go hK ?_; clear hK K)
    | refine Kn.go (by assumption) ?_
    | (intro n hn; (try simp only [upd_none2, join_none_iff, ite_none, ne_eq] at hn); (try simp only [push_cast, seval, *]))
    | (intro hc)
    | fail)
  exact ⟨_, _, Weak.less (by (simp only [push_cast, seval, *])), rfl, rfl⟩
theorem split2 {H : Heap} {n1 n2 : Nat} {k1 k2 : Blk} (h1 : H n1 = none) (h2 : H n2 = none) (h12 : ¬ n1 = n2) : upd (upd H n1 k1) n2 k2 = join H (upd (upd (fun _ => none) n1 k1) n2 k2) ∧ Apart H (upd (upd (fun _ => none) n1 k1) n2 k2) := by
  constructor
  · funext q
    unfold join upd
    by_cases e2 : q = n2
    · subst e2; simp [h2]
    by_cases e1 : q = n1
    · subst e1; simp [h1, e2]
    · simp [e1, e2]
  · intro q
    by_cases e2 : q = n2
    · subst e2; exact .inl h2
    by_cases e1 : q = n1
    · subst e1; exact .inl h1
    · exact .inr (by rw [upd_ne e2, upd_ne e1])
theorem with_g (l : List KC) (hl : l.length ≤ 100000) (hok : tOk l = true) (gf : FuncId) (caps : List AV) (H : Heap) (e : Int) (l' : List KC) (J J' : Heap → Prop) (hJ : J H)
    (h : ∀ G R x B nb, J G → Apart G R → join G R nb = none → OwnL B x 80 4 (l.map KC.av) (upd (join G R) nb (bxT x)) → ACall Try.prog gf ([.p nb 1 0 0] ++ caps) B fun r H' => r = .c (.int .i64 e) ∧ ((e = 0 ∧ ∃ x' G', J' G' ∧ Apart G' R ∧ join G' R nb = none ∧ OwnL H' x' 80 4 (l'.map KC.av) (upd (join G' R) nb (bxT x'))) ∨ (¬ e = 0 ∧ ∃ G', J' G' ∧ Apart G' R ∧ Heap.le (join G' R) H'))) :
    ACall Try.prog 68 [.g [.l 4 (l.map KC.av)], .f (.func gf) [] caps] H fun r H' => ∃ y G', r = .t [.g [y], .c (.int .i64 e)] ∧ J' G' ∧ ((e = 0 ∧ OwnL H' y 80 4 (l'.map KC.av) G') ∨ (¬ e = 0 ∧ y = .c (.slice none 0 0) ∧ H' = G')) := by
  have hch := tcheck_p l (by unfold maxLen; omega)
  rw [hok] at hch
  simp only [if_true, vE0] at hch
  have hcl := kclone_o l (by omega)
  replace h := Lib.hid h
  replace hJ := Lib.hid hJ
  refine ACall_of' Try.func68 rfl (Ent_of Try.func68 (by kernel_rfl) rfl) (by simp [Try.ntmps68]) ?_; simp only [Try.ntmps68, Try.results68]
  repeat' (first
    | refine AW_seq_kn fun K hK => ?_
    | refine AW_block ?_
    | (refine does_call rfl rfl ?_; simp only [push_cast, seval, *]; refine ACall.monoP (hch _) ?_; (try simp only [push_cast, seval, *]))
    | ((first
      | refine AW_region E0 ?_ | refine AW_ret ?_ | refine AW_exit ?_ | refine AW_skip ?_ | unfold retQ); try simp only [push_cast, seval, *])
    | (apply AW_cond; (case hc => (simp only [push_cast, seval]; rfl)); all_goals (intro hc; first | (exfalso; simp only [push_cast, seval, *] at hc; done) | (exact absurd hc (by decide)) | ((try first | rw [Bool.not_true] at hc | rw [Bool.not_false] at hc); first | (with_reducible replace hc := tTT hc); clear hc | (with_reducible replace hc := tFF hc); clear hc | (have hp := hc; try simp only [decide_eq_true_eq, decide_eq_false_iff_not, bA, bB, bC, bD, bE, bF, bG, bH] at hp))))
    | (refine Kn.go hK ?_; clear hK K)
    | refine Kn.go (by assumption) ?_
    | (intro n hn; (try simp only [upd_none2, join_none_iff, ite_none, ne_eq] at hn); (try simp only [push_cast, seval, *]))
    | (intro hc)
    | fail)
  rename_i n1 h1
  generalize n = n2 at *
  refine does_call rfl rfl ?_
  simp only [push_cast, seval, *]
  refine ACall.mono (hcl _) ?_
  intro x B hown
  have hcs := hown.cs
  have hone := hown.one
  have n12 : ¬ n1 = n2 := hn.1.2
  obtain ⟨e1, hap⟩ := split2 (k1 := .r 49 1 1 [[.l 4 (l.map KC.av)]]) (k2 := .r 49 1 1 [[.c (.slice none 0 0)]]) h1 hn.2 n12
  obtain ⟨R, hR⟩ : ∃ R : Heap, R = upd (upd (fun _ => none) n1 (.r 49 1 1 [[.l 4 (l.map KC.av)]])) n2 (.r 49 1 1 [[.c (.slice none 0 0)]]) := ⟨_, rfl⟩
  rw [e1, ← hR] at hown
  rw [← hR] at hap
  have r2 : R n2 = some (.r 49 1 1 [[.c (.slice none 0 0)]]) := by rw [hR]; exact upd_same _ _ _
  have hj2 : ∀ G', Apart G' R → join G' R n2 = some (.r 49 1 1 [[.c (.slice none 0 0)]]) ∧ G' n2 = none := fun G' ha => by
    rcases ha n2 with g | g
    · exact ⟨by rw [join_right g]; exact r2, g⟩
    · rw [r2] at g; cases g
  have kR := hown.get (hj2 H hap).1
  clear e1 hR h1 hn hch hcl
  replace hj2 := Lib.hid hj2
  replace hown := Lib.hid hown
  replace hap := Lib.hid hap
  (try simp only [push_cast, seval, *])
  repeat' (first
    | refine AW_seq_kn fun K hK => ?_
    | refine AW_block ?_
    | ((first
      | refine AW_region E0 ?_ | refine AW_ret ?_ | refine AW_exit ?_ | refine AW_skip ?_ | unfold retQ); try simp only [push_cast, seval, *])
    | (apply AW_cond; (case hc => (simp only [push_cast, seval]; rfl)); all_goals (intro hc; first | (exfalso; simp only [push_cast, seval, *] at hc; done) | (exact absurd hc (by decide)) | ((try first | rw [Bool.not_true] at hc | rw [Bool.not_false] at hc); first | (with_reducible replace hc := tTT hc); clear hc | (with_reducible replace hc := tFF hc); clear hc | (have hp := hc; try simp only [decide_eq_true_eq, decide_eq_false_iff_not, bA, bB, bC, bD, bE, bF, bG, bH] at hp))))
    | (refine Kn.go hK ?_; clear hK K)
    | refine Kn.go (by assumption) ?_
    | (intro n hn; (try simp only [upd_none2, join_none_iff, ite_none, ne_eq] at hn); (try simp only [push_cast, seval, *]))
    | (intro hc)
    | fail)
  have hjn : join H R n = none := (unhid hown).none hn
  have o2 := (unhid hown).new hn (bxT x)
  have hcall := unhid h H R x _ n (unhid hJ) (unhid hap) hjn o2
  simp only [bxT] at hcall
  refine does_call_f rfl (by simp only [push_cast, seval]; rfl) ?_
  simp only [push_cast, seval, *]
  refine ACall.mono hcall ?_
  rintro r H' ⟨rfl, hpost⟩
  clear hcall o2 kR
  rcases hpost with ⟨rfl, x', G', hJ', ha', hn', ho⟩ | ⟨he, G', hJ', ha', hle⟩
  · have kn := ho.get (upd_same _ _ _)
    obtain ⟨q1, q2⟩ := unhid hj2 G' ha'
    have hne : ¬ n2 = n := by rintro rfl; rw [q1] at hn'; cases hn'
    have k2' := ho.get (m := n2) (by rw [upd_ne hne]; exact q1)
    have hcs' := ho.cs
    have ht := ho.turn (m := n2) (by rw [upd_ne hne]; exact q1) (bxT x')
    have hgn : G' n = none := (join_none_iff.1 hn').1
    obtain ⟨H2, l1, l2⟩ := ht.cut (K := G') (fun q b hq => by
      have c1 : q ≠ n2 := by rintro rfl; rw [q2] at hq; cases hq
      have c2 : q ≠ n := by rintro rfl; rw [hgn] at hq; cases hq
      rw [upd_ne c1, upd_ne c2]; exact join_left hq)
    clear ho ht q1 hn' hjn
    replace l1 := Lib.hid l1
    replace l2 := Lib.hid l2
    replace hJ' := Lib.hid hJ'
    (try simp only [push_cast, seval, *])
    repeat' (first
    | refine AW_seq_kn fun K hK => ?_
    | refine AW_block ?_
    | ((first
      | refine AW_region E0 ?_ | refine AW_ret ?_ | refine AW_exit ?_ | refine AW_skip ?_ | unfold retQ); try simp only [push_cast, seval, *])
    | (apply AW_cond; (case hc => (simp only [push_cast, seval]; rfl)); all_goals (intro hc; first | (exfalso; simp only [push_cast, seval, *] at hc; done) | (exact absurd hc (by decide)) | ((try first | rw [Bool.not_true] at hc | rw [Bool.not_false] at hc); first | (with_reducible replace hc := tTT hc); clear hc | (with_reducible replace hc := tFF hc); clear hc | (have hp := hc; try simp only [decide_eq_true_eq, decide_eq_false_iff_not, bA, bB, bC, bD, bE, bF, bG, bH] at hp))))
    | (refine Kn.go hK ?_; clear hK K)
    | refine Kn.go (by assumption) ?_
    | (intro n hn; (try simp only [upd_none2, join_none_iff, ite_none, ne_eq] at hn); (try simp only [push_cast, seval, *]))
    | (intro hc)
    | fail)
    exact ⟨_, H2, Weak.less (unhid l1), x', G', rfl, unhid hJ', .inl (unhid l2)⟩
  · obtain ⟨q1, q2⟩ := unhid hj2 G' ha'
    have k2' := hle _ _ q1
    have heF : (e = 0) = False := by simp [he]
    have hl2 : ∀ k, Heap.le G' (upd H' n2 k) := fun k q b hq => by
      have c1 : q ≠ n2 := by rintro rfl; rw [q2] at hq; cases hq
      rw [upd_ne c1]; exact hle _ _ (join_left hq)
    clear q1 hle hjn
    replace hJ' := Lib.hid hJ'
    replace hl2 := Lib.hid hl2
    replace he := Lib.hid he
    (try simp only [push_cast, seval, *])
    repeat' (first
    | refine AW_seq_kn fun K hK => ?_
    | refine AW_block ?_
    | ((first
      | refine AW_region E0 ?_ | refine AW_ret ?_ | refine AW_exit ?_ | refine AW_skip ?_ | unfold retQ); try simp only [push_cast, seval, *])
    | (apply AW_cond; (case hc => (simp only [push_cast, seval]; rfl)); all_goals (intro hc; first | (exfalso; simp only [push_cast, seval, *] at hc; done) | (exact absurd hc (by decide)) | ((try first | rw [Bool.not_true] at hc | rw [Bool.not_false] at hc); first | (with_reducible replace hc := tTT hc); clear hc | (with_reducible replace hc := tFF hc); clear hc | (have hp := hc; try simp only [decide_eq_true_eq, decide_eq_false_iff_not, bA, bB, bC, bD, bE, bF, bG, bH] at hp))))
    | (refine Kn.go hK ?_; clear hK K)
    | refine Kn.go (by assumption) ?_
    | (intro n hn; (try simp only [upd_none2, join_none_iff, ite_none, ne_eq] at hn); (try simp only [push_cast, seval, *]))
    | (intro hc)
    | fail)
    exact ⟨_, G', Weak.less (unhid hl2 _), _, G', rfl, unhid hJ', .inr ⟨rfl, rfl⟩⟩
def putE (r : Rec) (c : CellD) : Int := if recOk ⟨r.s, r.k, r.v⟩ = false then 150 else if c.count < 0 ∨ (c.count = 0 ∧ ¬ c.sum = 0) then 2 else 0
theorem put1_a (l : List KC) (hl : l.length ≤ 100000) (hr : Rise l) (r : Rec) (c : CellD) (n2 n3 : Nat) (G R : Heap) (x : AV) (B : Heap) (nb : Nat) (h2 : G n2 = some (.r 54 3 1 [Rec.av r])) (h3 : G n3 = some (.r 26 2 1 [CellD.av c])) (hnb : join G R nb = none)
    (hown : OwnL B x 80 4 (l.map KC.av) (upd (join G R) nb (bxT x))) :
    ACall Try.prog 75 [.p nb 1 0 0, .p n2 3 0 0, .p n3 2 0 0] B fun q H' => q = .c (.int .i64 (putE r c)) ∧ ((putE r c = 0 ∧ ∃ x', OwnL H' x' 80 4 ((setS l r c).map KC.av) (upd (join G R) nb (bxT x'))) ∨ (¬ putE r c = 0 ∧ H' = B)) := by
  have hck := check_p r.s r.k r.v
  have hset := set_o l hl hr r c x nb (join G R) B hnb hown
  have j2 : join G R n2 = some (.r 54 3 1 [Rec.av r]) := join_left h2
  have j3 : join G R n3 = some (.r 26 2 1 [CellD.av c]) := join_left h3
  have c2 : n2 ≠ nb := by rintro rfl; rw [j2] at hnb; cases hnb
  have c3 : n3 ≠ nb := by rintro rfl; rw [j3] at hnb; cases hnb
  have k2 := hown.get (m := n2) (by rw [upd_ne c2]; exact j2)
  have k3 := hown.get (m := n3) (by rw [upd_ne c3]; exact j3)
  have hE : putE r c = if recOk ⟨r.s, r.k, r.v⟩ = false then 150 else if c.count < 0 ∨ (c.count = 0 ∧ ¬ c.sum = 0) then 2 else 0 := rfl
  generalize putE r c = E at *
  generalize setS l r c = S at *
  obtain ⟨s, k, v⟩ := r
  obtain ⟨cn, cs⟩ := c
  simp only [Rec.av, CellD.av] at hset k2 k3
  simp only at hE hck
  clear hown hnb j2 j3 c2 c3 h2 h3 hr
  replace hset := Lib.hid hset
  cases hrec : recOk ⟨s, k, v⟩
  · rw [hrec] at hck hE
    rw [if_pos rfl] at hE
    subst hE
    simp only [Bool.false_eq_true, if_false] at hck
    clear hrec
    refine ACall_of' Try.func75 rfl (Ent_of Try.func75 (by kernel_rfl) rfl) (by simp [Try.ntmps75]) ?_; simp only [Try.ntmps75, Try.results75]
    repeat' (first
    | refine AW_seq_kn fun K hK => ?_
    | refine AW_block ?_
    | (refine does_call rfl rfl ?_; simp only [push_cast, seval, *]; refine ACall.monoP (hck _) ?_; (try simp only [push_cast, seval, *]))
    | ((first
      | refine AW_region E0 ?_ | refine AW_ret ?_ | refine AW_exit ?_ | refine AW_skip ?_ | unfold retQ); try simp only [push_cast, seval, *])
    | ((first | (apply AW_cond; (case hc => (simp only [push_cast, seval]; rfl))) | (apply ER_guard; (case hb => (simp only [push_cast, seval]; rfl)))); all_goals ((intro hc; first | (exfalso; simp only [push_cast, seval, *] at hc; done) | (exact absurd hc (by decide)) | ((try first | rw [Bool.not_true] at hc | rw [Bool.not_false] at hc); first | (with_reducible replace hc := tTT hc); clear hc | (with_reducible replace hc := tFF hc); clear hc | (have hp := hc; try simp only [decide_eq_true_eq, decide_eq_false_iff_not, bA, bB, bC, bD, bE, bF, bG, bH] at hp))) <;> try simp only [push_cast, seval, *]))
    | (refine Kn.go hK ?_; clear hK K)
    | refine Kn.go (by assumption) ?_
    | (intro n hn; (try simp only [upd_none2, join_none_iff, ite_none, ne_eq] at hn); (try simp only [push_cast, seval, *]))
    | (intro hc)
    | (apply ER_blk; (case hp => rfl); (case hb => (simp only [push_cast, seval]; rfl)); (case hd => (simp only [push_cast, seval]; done)); (case h => (intro hc; simp only [push_cast, seval, *]; rfl)); simp only [push_cast, seval, *])
    | fail)
    exact ⟨_, _, Weak.refl _ _, rfl, .inr rfl⟩
  · rw [hrec] at hck hE
    rw [if_neg (by simp)] at hE
    simp only [if_true] at hck
    have h4 : ((cn < 0) = True) ∨ ((cn < 0) = False ∧ (cn = 0) = True ∧ (cs = 0) = False) ∨ ((cn < 0) = False ∧ (cn = 0) = True ∧ (cs = 0) = True) ∨ ((cn < 0) = False ∧ (cn = 0) = False) := by
      simp only [eq_iff_iff, iff_true, iff_false]; omega
    clear hrec
    rcases h4 with e1 | ⟨e1, e2, e3⟩ | ⟨e1, e2, e3⟩ | ⟨e1, e2⟩
    all_goals
      simp only [e1, true_or, false_or, if_true] at hE
      try simp only [e2, true_and, false_and, if_false] at hE
      try simp only [e3, not_false_eq_true, not_true_eq_false, if_true, if_false] at hE
      subst hE
      refine ACall_of' Try.func75 rfl (Ent_of Try.func75 (by kernel_rfl) rfl) (by simp [Try.ntmps75]) ?_; simp only [Try.ntmps75, Try.results75]
      repeat' (first
    | refine AW_seq_kn fun K hK => ?_
    | refine AW_block ?_
    | (refine does_call rfl rfl ?_; simp only [push_cast, seval, *]; refine ACall.monoP (hck _) ?_; (try simp only [push_cast, seval, *]))
    | ((first
      | refine AW_region E0 ?_ | refine AW_ret ?_ | refine AW_exit ?_ | refine AW_skip ?_ | unfold retQ); try simp only [push_cast, seval, *])
    | ((first | (apply AW_cond; (case hc => (simp only [push_cast, seval]; rfl))) | (apply ER_guard; (case hb => (simp only [push_cast, seval]; rfl)))); all_goals ((intro hc; first | (exfalso; simp only [push_cast, seval, *] at hc; done) | (exact absurd hc (by decide)) | ((try first | rw [Bool.not_true] at hc | rw [Bool.not_false] at hc); first | (with_reducible replace hc := tTT hc); clear hc | (with_reducible replace hc := tFF hc); clear hc | (have hp := hc; try simp only [decide_eq_true_eq, decide_eq_false_iff_not, bA, bB, bC, bD, bE, bF, bG, bH] at hp))) <;> try simp only [push_cast, seval, *]))
    | (refine Kn.go hK ?_; clear hK K)
    | refine Kn.go (by assumption) ?_
    | (intro n hn; (try simp only [upd_none2, join_none_iff, ite_none, ne_eq] at hn); (try simp only [push_cast, seval, *]))
    | (intro hc)
    | (apply ER_blk; (case hp => rfl); (case hb => (simp only [push_cast, seval]; rfl)); (case hd => (simp only [push_cast, seval]; done)); (case h => (intro hc; simp only [push_cast, seval, *]; rfl)); simp only [push_cast, seval, *])
    | fail)
      first
        | exact ⟨_, _, Weak.refl _ _, rfl, .inr ⟨by decide, rfl⟩⟩
        | exact ⟨_, _, Weak.refl _ _, rfl, .inr rfl⟩
        | (refine does_call rfl rfl ?_
           simp only [push_cast, seval, *]
           refine ACall.mono (unhid hset) ?_
           rintro q H' ⟨x', hx'⟩
           replace hx' := Lib.hid hx'
           (try simp only [push_cast, seval, *])
           repeat' (first
    | refine AW_seq_kn fun K hK => ?_
    | refine AW_block ?_
    | ((first
      | refine AW_region E0 ?_ | refine AW_ret ?_ | refine AW_exit ?_ | refine AW_skip ?_ | unfold retQ); try simp only [push_cast, seval, *])
    | ((first | (apply AW_cond; (case hc => (simp only [push_cast, seval]; rfl))) | (apply ER_guard; (case hb => (simp only [push_cast, seval]; rfl)))); all_goals ((intro hc; first | (exfalso; simp only [push_cast, seval, *] at hc; done) | (exact absurd hc (by decide)) | ((try first | rw [Bool.not_true] at hc | rw [Bool.not_false] at hc); first | (with_reducible replace hc := tTT hc); clear hc | (with_reducible replace hc := tFF hc); clear hc | (have hp := hc; try simp only [decide_eq_true_eq, decide_eq_false_iff_not, bA, bB, bC, bD, bE, bF, bG, bH] at hp))) <;> try simp only [push_cast, seval, *]))
    | (refine Kn.go hK ?_; clear hK K)
    | refine Kn.go (by assumption) ?_
    | (intro n hn; (try simp only [upd_none2, join_none_iff, ite_none, ne_eq] at hn); (try simp only [push_cast, seval, *]))
    | (intro hc)
    | (apply ER_blk; (case hp => rfl); (case hb => (simp only [push_cast, seval]; rfl)); (case hd => (simp only [push_cast, seval]; done)); (case h => (intro hc; simp only [push_cast, seval, *]; rfl)); simp only [push_cast, seval, *])
    | fail)
           exact ⟨_, _, Weak.refl _ _, rfl, .inl ⟨x', by rw [← upd_join]; exact unhid hx'⟩⟩)
def putR (l : List KC) (r : Rec) (c : CellD) : List KC × Int := if tOk l = false then ([], 220) else if putE r c = 0 then (setS l r c, 0) else ([], putE r c)
theorem Put_o (l : List KC) (hl : l.length ≤ 100000) (r : Rec) (c : CellD) (H : Heap) :
    ACall Try.prog 40 [.g [.l 4 (l.map KC.av)], .g (Rec.av r), .g (CellD.av c)] H fun q H' => ∃ y, q = .t [.g [y], .c (.int .i64 (putR l r c).2)] ∧ OwnL H' y 80 4 ((putR l r c).1.map KC.av) H := by
  have hR : putR l r c = if tOk l = false then ([], 220) else if putE r c = 0 then (setS l r c, 0) else ([], putE r c) := rfl
  have hno := with_no l (by unfold maxLen; omega)
  have hp1 := fun (hr : Rise l) => put1_a l hl hr r c
  have hri : tOk l = true → Rise l := tOk_rise
  generalize putR l r c = T at *
  obtain ⟨T1, T2⟩ := T
  have hra : Rec.av r = [.c (.int .i64 r.s), .c (.int .i64 r.k), .c (.int .i64 r.v)] := rfl
  have hca : CellD.av c = [.c (.int .i64 c.count), .c (.int .i64 c.sum)] := rfl
  generalize putE r c = E at *
  generalize setS l r c = S at *
  rw [hra, hca] at hp1 ⊢
  clear hra hca
  replace hno := Lib.hid hno
  replace hp1 := Lib.hid hp1
  replace hri := Lib.hid hri
  replace hR := Lib.hid hR
  refine ACall_of' Try.func40 rfl (Ent_of Try.func40 (by kernel_rfl) rfl) (by simp [Try.ntmps40]) ?_; simp only [Try.ntmps40, Try.results40]
  repeat' (first
    | refine AW_seq_kn fun K hK => ?_
    | refine AW_block ?_
    | ((first
      | refine AW_region E0 ?_ | refine AW_ret ?_ | refine AW_exit ?_ | refine AW_skip ?_ | unfold retQ); try simp only [push_cast, seval, *])
    | (apply AW_cond; (case hc => (simp only [push_cast, seval]; rfl)); all_goals (intro hc; first | (exfalso; simp only [push_cast, seval, *] at hc; done) | (exact absurd hc (by decide)) | ((try first | rw [Bool.not_true] at hc | rw [Bool.not_false] at hc); first | (with_reducible replace hc := tTT hc); clear hc | (with_reducible replace hc := tFF hc); clear hc | (have hp := hc; try simp only [decide_eq_true_eq, decide_eq_false_iff_not, bA, bB, bC, bD, bE, bF, bG, bH] at hp))))
    | (refine Kn.go hK ?_; clear hK K)
    | refine Kn.go (by assumption) ?_
    | (intro n hn; (try simp only [upd_none2, join_none_iff, ite_none, ne_eq] at hn); (try simp only [push_cast, seval, *]))
    | (intro hc)
    | fail)
  rename_i n1 h1 n2 h2 n3 h3
  generalize n = n4 at *
  obtain ⟨Hs, hHs⟩ : ∃ Hs : Heap, Hs = upd (upd (upd (upd H n1 (.r 49 1 1 [[.l 4 (l.map KC.av)]])) n2 (.r 54 3 1 [[.c (.int .i64 r.s), .c (.int .i64 r.k), .c (.int .i64 r.v)]])) n3 (.r 26 2 1 [[.c (.int .i64 c.count), .c (.int .i64 c.sum)]])) n4 (.r 49 1 1 [[.c (.slice none 0 0)]]) := ⟨_, rfl⟩
  have g2 : Hs n2 = some (.r 54 3 1 [[.c (.int .i64 r.s), .c (.int .i64 r.k), .c (.int .i64 r.v)]]) := by rw [hHs]; simp only [push_cast, seval, *]
  have g3 : Hs n3 = some (.r 26 2 1 [[.c (.int .i64 c.count), .c (.int .i64 c.sum)]]) := by rw [hHs]; simp only [push_cast, seval, *]
  have g4 : Hs n4 = some (.r 49 1 1 [[.c (.slice none 0 0)]]) := by rw [hHs]; exact upd_same _ _ _
  have hm4 : H n4 = none := hn.2.2.2
  have hle : Heap.le H Hs := by rw [hHs]; (repeat' (first | exact Heap.le_refl _ | refine hle_upd2 ?_ _ _ | (refine Heap.le_new ?_ ?_; rotate_left 1; focus (first | assumption | (simp only [upd_none2, upd_get, ne_eq, push_cast, seval, *]; done) | (simp [upd_get, *]; done)))))
  rw [← hHs]
  clear hHs h1 h2 h3 hn
  replace hle := Lib.hid hle
  cases hok : tOk l
  · obtain ⟨rfl, rfl⟩ : T1 = [] ∧ T2 = 220 := by
      have h := unhid hR; rw [hok, if_pos rfl] at h; simpa using h
    clear hR hp1 hri
    refine does_call rfl rfl ?_
    simp only [push_cast, seval, *]
    refine ACall.mono (unhid hno hok _ _ _) ?_
    rintro _ _ ⟨rfl, e2⟩
    have e3 := e2.symm; clear e2; subst e3
    clear hno
    (try simp only [push_cast, seval, *])
    repeat' (first
    | refine AW_seq_kn fun K hK => ?_
    | refine AW_block ?_
    | ((first
      | refine AW_region E0 ?_ | refine AW_ret ?_ | refine AW_exit ?_ | refine AW_skip ?_ | unfold retQ); try simp only [push_cast, seval, *])
    | (apply AW_cond; (case hc => (simp only [push_cast, seval]; rfl)); all_goals (intro hc; first | (exfalso; simp only [push_cast, seval, *] at hc; done) | (exact absurd hc (by decide)) | ((try first | rw [Bool.not_true] at hc | rw [Bool.not_false] at hc); first | (with_reducible replace hc := tTT hc); clear hc | (with_reducible replace hc := tFF hc); clear hc | (have hp := hc; try simp only [decide_eq_true_eq, decide_eq_false_iff_not, bA, bB, bC, bD, bE, bF, bG, bH] at hp))))
    | (refine Kn.go hK ?_; clear hK K)
    | refine Kn.go (by assumption) ?_
    | (intro n hn; (try simp only [upd_none2, join_none_iff, ite_none, ne_eq] at hn); (try simp only [push_cast, seval, *]))
    | (intro hc)
    | fail)
    refine ⟨_, H, Weak.less ?_, _, rfl, .inl ⟨⟨_, rfl⟩, rfl, rfl⟩⟩
    intro q b hq
    have c4 : ¬ q = n4 := by rintro rfl; rw [hm4] at hq; cases hq
    rw [upd_ne c4]; exact unhid hle q b hq
  · refine does_call rfl rfl ?_
    simp only [push_cast, seval, *]
    refine ACall.mono (with_g l hl hok 75 [.p n2 3 0 0, .p n3 2 0 0] Hs E S (fun G => Heap.le Hs G) (fun G => Heap.le Hs G) (Heap.le_refl _) (fun G R x B nb hG hap hnb hown => (unhid hp1 (unhid hri hok) n2 n3 G R x B nb (hG _ _ g2) (hG _ _ g3) hnb hown).mono fun q H' h => ⟨h.1, h.2.elim (fun h => .inl ⟨h.1, let ⟨x', hx'⟩ := h.2; ⟨x', G, hG, hap, hnb, hx'⟩⟩) (fun h => .inr ⟨h.1, G, hG, hap, by rw [h.2]; exact fun q b hq => hown.get (by rw [upd_ne (by rintro rfl; rw [hnb] at hq; cases hq)]; exact hq)⟩)⟩)) ?_
    rintro q H' ⟨y, G', rfl, hG', hpost⟩
    clear hno hp1 hri
    rcases hpost with ⟨rfl, ho⟩ | ⟨he, rfl, rfl⟩
    · obtain ⟨rfl, rfl⟩ : T1 = S ∧ T2 = 0 := by
        have h := unhid hR; rw [hok, if_neg (by simp), if_pos rfl] at h; simpa using h
      have k4 := ho.get (hG' _ _ g4)
      have hycs := ho.cs
      have ht := ho.turn (hG' _ _ g4) (.r 49 1 1 [[y]])
      obtain ⟨H2, l1, l2⟩ := ht.cut (K := H) (fun q b hq => by
        have c4 : ¬ q = n4 := by rintro rfl; rw [hm4] at hq; cases hq
        rw [upd_ne c4]; exact hG' _ _ (unhid hle q b hq))
      clear ho ht hG' hR
      replace l1 := Lib.hid l1
      replace l2 := Lib.hid l2
      (try simp only [push_cast, seval, *])
      repeat' (first
    | refine AW_seq_kn fun K hK => ?_
    | refine AW_block ?_
    | ((first
      | refine AW_region E0 ?_ | refine AW_ret ?_ | refine AW_exit ?_ | refine AW_skip ?_ | unfold retQ); try simp only [push_cast, seval, *])
    | (apply AW_cond; (case hc => (simp only [push_cast, seval]; rfl)); all_goals (intro hc; first | (exfalso; simp only [push_cast, seval, *] at hc; done) | (exact absurd hc (by decide)) | ((try first | rw [Bool.not_true] at hc | rw [Bool.not_false] at hc); first | (with_reducible replace hc := tTT hc); clear hc | (with_reducible replace hc := tFF hc); clear hc | (have hp := hc; try simp only [decide_eq_true_eq, decide_eq_false_iff_not, bA, bB, bC, bD, bE, bF, bG, bH] at hp))))
    | (refine Kn.go hK ?_; clear hK K)
    | refine Kn.go (by assumption) ?_
    | (intro n hn; (try simp only [upd_none2, join_none_iff, ite_none, ne_eq] at hn); (try simp only [push_cast, seval, *]))
    | (intro hc)
    | fail)
      exact ⟨_, H2, Weak.less (unhid l1), y, rfl, unhid l2⟩
    · obtain ⟨rfl, rfl⟩ : T1 = [] ∧ T2 = E := by
        have h := unhid hR; rw [hok, if_neg (by simp), if_neg he] at h; simpa using h
      have k4 := hG' _ _ g4
      have hl4 : ∀ k, Heap.le H (upd H' n4 k) := fun k q b hq => by
        have c4 : ¬ q = n4 := by rintro rfl; rw [hm4] at hq; cases hq
        rw [upd_ne c4]; exact hG' _ _ (unhid hle q b hq)
      clear hG' hR
      replace hl4 := Lib.hid hl4
      (try simp only [push_cast, seval, *])
      repeat' (first
    | refine AW_seq_kn fun K hK => ?_
    | refine AW_block ?_
    | ((first
      | refine AW_region E0 ?_ | refine AW_ret ?_ | refine AW_exit ?_ | refine AW_skip ?_ | unfold retQ); try simp only [push_cast, seval, *])
    | (apply AW_cond; (case hc => (simp only [push_cast, seval]; rfl)); all_goals (intro hc; first | (exfalso; simp only [push_cast, seval, *] at hc; done) | (exact absurd hc (by decide)) | ((try first | rw [Bool.not_true] at hc | rw [Bool.not_false] at hc); first | (with_reducible replace hc := tTT hc); clear hc | (with_reducible replace hc := tFF hc); clear hc | (have hp := hc; try simp only [decide_eq_true_eq, decide_eq_false_iff_not, bA, bB, bC, bD, bE, bF, bG, bH] at hp))))
    | (refine Kn.go hK ?_; clear hK K)
    | refine Kn.go (by assumption) ?_
    | (intro n hn; (try simp only [upd_none2, join_none_iff, ite_none, ne_eq] at hn); (try simp only [push_cast, seval, *]))
    | (intro hc)
    | fail)
      exact ⟨_, H, Weak.less (unhid hl4 _), _, rfl, .inl ⟨⟨_, rfl⟩, rfl, rfl⟩⟩
def rpGo (r : Rec) (c : CellD) : Bool → List KC → List KC
  | d, [] => if d = true then [] else [newC r c]
  | d, x :: l => (if (!d && decide (0 < cmpR (keyS x) r)) = true then [newC r c] else []) ++ (if cmpR (keyS x) r = 0 then [] else [x]) ++ rpGo r c (d || decide (0 < cmpR (keyS x) r)) l
theorem rpGo_true (r : Rec) (c : CellD) : ∀ l : List KC, (∀ x ∈ l, 0 < cmpR (keyS x) r) → rpGo r c true l = l
  | [], _ => rfl
  | x :: l, h => by
    have hx := h x (by simp)
    simp only [rpGo, Bool.not_true, Bool.false_and, Bool.false_eq_true, if_false, List.nil_append, Bool.true_or]
    rw [if_neg (by omega), rpGo_true r c l (fun y hy => h y (by simp [hy]))]; rfl
theorem rpGo_pos (r : Rec) (c : CellD) (l : List KC) (h : ∀ x ∈ l, 0 < cmpR (keyS x) r) : rpGo r c false l = newC r c :: l := by
  cases l with
  | nil => rfl
  | cons x l =>
    have hx := h x (by simp)
    simp only [rpGo, Bool.not_false, Bool.true_and, decide_eq_true hx, if_true, Bool.false_or]
    rw [if_neg (by omega), rpGo_true r c l (fun y hy => h y (by simp [hy]))]; rfl
theorem rise_tail {x : KC} {l : List KC} {r : Rec} (h : Rise (x :: l)) (hx : 0 ≤ cmpR (keyS x) r) : ∀ y ∈ l, 0 < cmpR (keyS y) r := fun y hy => by
  have h1 := (List.pairwise_cons.1 h).1 y hy
  have h2 : ¬ cmpR (keyS x) r < 0 := by omega
  rw [cmpR_neg] at h1 h2
  rw [cmpR_pos]; omega
theorem setS_rp (r : Rec) (c : CellD) : ∀ l : List KC, Rise l → setS l r c = rpGo r c (decide (c = zeroC)) l
  | [], _ => by
    by_cases hc : c = zeroC <;> simp [setS, atB, bsF, atI, lbd, rpGo, hc]
  | x :: l, h => by
    have ht := (List.pairwise_cons.1 h).2
    have ih := setS_rp r c l ht
    by_cases hn : cmpR (keyS x) r < 0
    · have e1 : atI (x :: l) r = atI l r + 1 := by simp [atI, lbd, List.takeWhile_cons, hn]
      have e2 : atB (x :: l) r = atB l r := by
        unfold atB bsF
        have : lbd (fun x => decide (cmpR (keyS x) r < 0)) (x :: l) = lbd (fun x => decide (cmpR (keyS x) r < 0)) l + 1 := e1
        rw [this, List.getElem?_cons_succ]
      have e3 : setS (x :: l) r c = x :: setS l r c := by
        unfold setS
        rw [e1, e2]
        by_cases hb : atB l r = true
        · by_cases hc : c = zeroC <;> simp [hb, hc]
        · by_cases hc : c = zeroC <;> simp [hb, hc]
      rw [e3, ih]
      simp only [rpGo]
      rw [decide_eq_false (by omega : ¬ 0 < cmpR (keyS x) r), if_neg (by omega : ¬ cmpR (keyS x) r = 0)]
      simp
    have hp := rise_tail h (r := r) (by omega)
    have e1 : atI (x :: l) r = 0 := by simp [atI, lbd, List.takeWhile_cons, hn]
    have e2 : atB (x :: l) r = decide (cmpR (keyS x) r = 0) := by
      unfold atB bsF
      have : lbd (fun x => decide (cmpR (keyS x) r < 0)) (x :: l) = 0 := e1
      rw [this]; rfl
    by_cases hz : cmpR (keyS x) r = 0
    · have hk : putC x c = newC r c := by
        rw [cmpR_zero] at hz
        unfold putC newC; simp only [keyS] at hz; rw [hz.1, hz.2]
      unfold setS
      rw [e1, e2, decide_eq_true hz, if_pos rfl]
      simp only [rpGo]
      rw [decide_eq_false (by omega : ¬ 0 < cmpR (keyS x) r), if_pos hz]
      by_cases hc : c = zeroC
      · rw [if_pos hc, decide_eq_true hc]
        simp [rpGo_true r c l hp]
      · rw [if_neg hc, decide_eq_false hc]
        simp [rpGo_pos r c l hp, hk]
    · have hpx : 0 < cmpR (keyS x) r := by omega
      unfold setS
      rw [e1, e2, decide_eq_false hz, if_neg (by simp)]
      simp only [rpGo]
      rw [decide_eq_true hpx, if_neg hz]
      by_cases hc : c = zeroC
      · rw [if_pos hc, decide_eq_true hc]
        simp [rpGo_true r c l hp]
      · rw [if_neg hc, decide_eq_false hc]
        simp [rpGo_true r c l hp]
end Go.Proofs.Ytmkncbddjnaklaa
