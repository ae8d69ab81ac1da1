/- What something holds of is told. -/
import Derived.Test.YtlbdpnlmdcajbaaO
namespace Go.Proofs.Ytlbdpnlmdcajbaa
open Go.RowKit
open Nat renaming reduceEqDiff → nA, reduceLT → nB, reduceLeDiff → nC, reduceAdd → nD, reduceMul → nE, reduceSub → nF, reduceBEq → nG
open Int renaming reduceToNat → iA, reduceLT → iB, reduceLE → iC, reduceEq → iD
open Bool renaming and_eq_true → bA, or_eq_true → bB, or_eq_false_iff → bC, and_eq_false_iff → bD, not_eq_true' → bE, not_eq_false' → bF, not_true → bG, not_false → bH
set_option linter.all false
set_option maxHeartbeats 4000000
attribute [local irreducible] AW Does ACall tE tS tB tZ
set_option maxRecDepth 5000

def iu (n : Int) : List AV := [.c (.int .u64 n)]
attribute [push_cast] iu
theorem ownL_join {A B B0 : Heap} {x : AV} {ty : TypeId} {sz : Nat} {rows : List (List AV)} (hap : Apart A B) (h : OwnL B x ty sz rows B0) : OwnL (join A B) x ty sz rows (join A B0) := by
  have h2 := (Loc.own x ty sz rows).frame h hap.symm
  rw [join_comm hap, join_comm (A := A) (B := B0)]
  · exact h2
  · intro n
    rcases hap n with g | g
    · exact .inl g
    · exact .inr ((Loc.own x ty sz rows).old h g)
theorem apart_le {A B B0 : Heap} (h : Apart A B) (hl : Heap.le B0 B) : Apart A B0 := fun n => by
  rcases h n with g | g
  · exact .inl g
  · exact .inr (le_no hl g)
theorem collected_o (l : List Int) (hl : l.length ≤ 1000000) (gf : FuncId) (caps : List AV) (A B : Heap) (S Sp : Heap → Prop) (hap : Apart A B) (hit : AIter Try.prog gf caps (l.map iu) A S Sp) :
    ACall Try.prog 85 [.f (.func gf) [] caps] (join A B) fun r H' => ∃ A' B', S A' ∧ H' = join A' B' ∧ Apart A' B' ∧ OwnL B' r 25 1 (l.map iu) B := by
  refine ACall_of' Try.func85 rfl (Ent_of Try.func85 (by kernel_rfl) rfl) (by simp [Try.ntmps85]) ?_; simp only [Try.ntmps85, Try.results85]
  repeat' (first
    | refine AW_seq_kn fun K hK => ?_
    | refine AW_block ?_
    | ((first
      | refine AW_region E0 ?_ | refine AW_ret ?_ | refine AW_exit ?_ | refine AW_skip ?_ | unfold retQ); try simp only [push_cast, seval, *])
    | (apply AW_cond; (case hc => (simp only [push_cast, seval]; rfl)); all_goals (intro hc; first | (exfalso; simp only [push_cast, seval, *] at hc; done) | (exact absurd hc (by decide)) | ((try first | rw [Bool.not_true] at hc | rw [Bool.not_false] at hc); first | (with_reducible replace hc := tTT hc); clear hc | (with_reducible replace hc := tFF hc); clear hc | (have hp := hc; try simp only [decide_eq_true_eq, decide_eq_false_iff_not, bA, bB, bC, bD, bE, bF, bG, bH] at hp))))
    | (refine Kn.go hK ?_; clear hK K)
    | refine Kn.go (by assumption) ?_
    | (intro n hn; (try simp only [upd_none2, join_none_iff, ite_none, ne_eq] at hn); (try simp only [push_cast, seval, *]))
    | (intro hc)
    | fail)
  have hAn : A n = none := hn.1
  have hBn : B n = none := hn.2
  have hBB : Heap.le B (upd B n (.r 41 1 1 [[.c (.slice none 0 0)]])) := le_upd_new hBn
  refine AW_range (B := upd B n (.r 41 1 1 [[.c (.slice none 0 0)]])) rfl hit ?_ ?_ (by intro x hx; obtain ⟨y, _, rfl⟩ := List.mem_map.1 hx; rfl) (by simp) (fun k B1 => ∃ x, OwnL B1 x 25 1 ((l.take k).map iu) (upd B n (.r 41 1 1 [[x]]))) (fun _ _ => False) ⟨_, .inl ⟨⟨_, rfl⟩, rfl, rfl⟩⟩ ?_ ?_ ?_
  · intro m
    by_cases e : m = n
    · subst e; exact .inl hAn
    · rw [upd_ne e]; exact hap m
  · intro q b hq
    unfold join at hq ⊢
    by_cases e : q = n
    · subst e; rw [hAn, upd_same] at hq; rw [upd_same]; exact hq
    · rw [upd_ne e] at hq ⊢; exact hq
  · rintro k hk B1 ⟨x, hown⟩
    have hk' : k < l.length := by simpa using hk
    have hkt := hown.get (upd_same _ _ _)
    have hcs := hown.cs
    have hx := List.getElem?_eq_getElem hk'
    simp only [List.getElem_map]
    generalize l[k] = y at hx
    have hry : iu y = [.c (.int .u64 y)] := rfl
    repeat' (first
    | refine AW_seq_kn fun K hK => ?_
    | refine AW_block ?_
    | ((first
      | refine AW_region E0 ?_ | refine AW_ret ?_ | refine AW_exit ?_ | refine AW_skip ?_ | unfold retQ); try simp only [push_cast, seval, *])
    | (apply AW_cond; (case hc => (simp only [push_cast, seval]; rfl)); all_goals (intro hc; first | (exfalso; simp only [push_cast, seval, *] at hc; done) | (exact absurd hc (by decide)) | ((try first | rw [Bool.not_true] at hc | rw [Bool.not_false] at hc); first | (with_reducible replace hc := tTT hc); clear hc | (with_reducible replace hc := tFF hc); clear hc | (have hp := hc; try simp only [decide_eq_true_eq, decide_eq_false_iff_not, bA, bB, bC, bD, bE, bF, bG, bH] at hp))))
    | (refine Kn.go hK ?_; clear hK K)
    | refine Kn.go (by assumption) ?_
    | (intro n hn; (try simp only [upd_none2, join_none_iff, ite_none, ne_eq] at hn); (try simp only [push_cast, seval, *]))
    | (intro hc)
    | fail)
    refine does_app1 rfl rfl rfl rfl hown hn tE41 tS25 tB25 tZ25 rfl (by decide) ?_ ?_ ?_
    · simp only [List.length_map, List.length_take, maxLen]; omega
    · simp only [List.length_map, List.length_take]; omega
    intro x' H' hown'
    have hkt' := hown'.get (upd_same _ _ _)
    have hcs' := hown'.cs
    (try simp only [push_cast, seval, *])
    refine ⟨x', ?_⟩
    have h := hown'.turn (upd_same _ _ _) (.r 41 1 1 [[x']])
    rw [upd_upd] at h
    rw [take_snoc_map iu hx]
    exact h
  · rintro A' B' hap' hS ⟨x, hown⟩
    rw [List.length_map, List.take_length] at hown
    have hj := ownL_join hap' hown
    have hkt := hj.get (m := n) (k := .r 41 1 1 [[x]]) (by
      have hA' : A' n = none := by
        rcases hap' n with g | g
        · exact g
        · rw [hown.get (upd_same _ _ _)] at g; cases g
      rw [join_right hA', upd_same])
    obtain ⟨B2, hB2, hown2⟩ := hown.cut (le_upd_new hBn)
    replace hown2 := Lib.hid hown2
    repeat' (first
    | refine AW_seq_kn fun K hK => ?_
    | refine AW_block ?_
    | ((first
      | refine AW_region E0 ?_ | refine AW_ret ?_ | refine AW_exit ?_ | refine AW_skip ?_ | unfold retQ); try simp only [push_cast, seval, *])
    | (apply AW_cond; (case hc => (simp only [push_cast, seval]; rfl)); all_goals (intro hc; first | (exfalso; simp only [push_cast, seval, *] at hc; done) | (exact absurd hc (by decide)) | ((try first | rw [Bool.not_true] at hc | rw [Bool.not_false] at hc); first | (with_reducible replace hc := tTT hc); clear hc | (with_reducible replace hc := tFF hc); clear hc | (have hp := hc; try simp only [decide_eq_true_eq, decide_eq_false_iff_not, bA, bB, bC, bD, bE, bF, bG, bH] at hp))))
    | (refine Kn.go hK ?_; clear hK K)
    | refine Kn.go (by assumption) ?_
    | (intro n hn; (try simp only [upd_none2, join_none_iff, ite_none, ne_eq] at hn); (try simp only [push_cast, seval, *]))
    | (intro hc)
    | fail)
    exact ⟨_, _, Weak.less (Heap.le_join (Heap.le_refl _) hB2 hap'), A', B2, hS, rfl, apart_le hap' hB2, unhid hown2⟩
  · exact fun _ _ _ _ _ h => h.elim
theorem numbers_o (x : AV) (gf : FuncId) (caps : List AV) (hx : x.cs = some [x]) (H : Heap) : ACall Try.prog 86 [x, .f (.func gf) [] caps] H fun r H' => ∃ n2 n3, r = .f (.func 89) [] [.p n2 1 0 0, .p n3 1 0 0] ∧ H n2 = none ∧ H n3 = none ∧ ¬ n2 = n3 ∧ H' = upd (upd H n2 (.r 28 1 1 [[x]])) n3 (.r 110 1 1 [[.f (.func gf) [] caps]]) := by
  refine ACall_of' Try.func86 rfl (Ent_of Try.func86 (by kernel_rfl) rfl) (by simp [Try.ntmps86]) ?_; simp only [Try.ntmps86, Try.results86]
  repeat' (first
    | refine AW_seq_kn fun K hK => ?_
    | refine AW_block ?_
    | ((first
      | refine AW_region E0 ?_ | refine AW_ret ?_ | refine AW_exit ?_ | refine AW_skip ?_ | unfold retQ); try simp only [push_cast, seval, *])
    | (apply AW_cond; (case hc => (simp only [push_cast, seval]; rfl)); all_goals (intro hc; first | (exfalso; simp only [push_cast, seval, *] at hc; done) | (exact absurd hc (by decide)) | ((try first | rw [Bool.not_true] at hc | rw [Bool.not_false] at hc); first | (with_reducible replace hc := tTT hc); clear hc | (with_reducible replace hc := tFF hc); clear hc | (have hp := hc; try simp only [decide_eq_true_eq, decide_eq_false_iff_not, bA, bB, bC, bD, bE, bF, bG, bH] at hp))))
    | (refine Kn.go hK ?_; clear hK K)
    | refine Kn.go (by assumption) ?_
    | (intro n hn; (try simp only [upd_none2, join_none_iff, ite_none, ne_eq] at hn); (try simp only [push_cast, seval, *]))
    | (intro hc)
    | fail)
  rename_i n2 h2
  exact ⟨_, _, Weak.refl _ _, n2, n, rfl, h2, hn.2, hn.1.2, rfl⟩
theorem numbers_i (L : List (AV × Pd)) (hl : L.length ≤ 1000) (x : AV) (np cap n2 n3 : Nat) (A : Heap) (is : Pd → Bool) (gf : FuncId) (caps : List AV) (hA2 : A n2 = some (.r 28 1 1 [[x]])) (hA3 : A n3 = some (.r 110 1 1 [[.f (.func gf) [] caps]]))
    (hx : (x = .s np 4 0 L.length cap ∧ A np = some (.r 61 4 cap (L.map encP))) ∨ (∃ ad, x = .c (.slice ad 0 0) ∧ L = [])) (hcss : ∀ q ∈ L, q.1.cs = some [q.1])
    (hf : ∀ q ∈ L, ∀ G, Heap.le A G → ACall Try.prog gf ([.g (encP q)] ++ caps) G fun r H' => r = .c (.bool (is q.2)) ∧ H' = G) :
    AIter Try.prog 89 [.p n2 1 0 0, .p n3 1 0 0] (((L.map Prod.snd).filter is).map fun p => iu p.num) A (fun A' => A' = A) (fun _ => True) := by
  refine ⟨Ent_of Try.func89 (by kernel_rfl) rfl, ?_⟩
  have hfm : ((L.map Prod.snd).filter is).map (fun p => iu p.num) = (L.filter fun q => is q.2).map (fun q => iu q.2.num) := by rw [List.filter_map, List.map_map]; rfl
  rw [hfm]
  clear hfm
  intro lp J Jx hr B hap hJ
  have hA2' := join_left (B := B) hA2
  have hA3' := join_left (B := B) hA3
  rcases hx with ⟨rfl, hnp⟩ | ⟨ad, rfl, rfl⟩
  rotate_left
  · refine ACall_of' Try.func89 rfl (Ent_of Try.func89 (by kernel_rfl) rfl) (by simp [Try.ntmps89]) ?_; simp only [Try.ntmps89, Try.results89]
    repeat' (first
    | refine AW_seq_kn fun K hK => ?_
    | refine AW_block ?_
    | ((first
      | refine AW_region E0 ?_ | refine AW_ret ?_ | refine AW_exit ?_ | refine AW_skip ?_ | unfold retQ); try simp only [push_cast, seval, *])
    | ((first | (apply AW_cond; (case hc => (simp only [push_cast, seval]; rfl))) | (apply ER_guard; (case hb => (simp only [push_cast, seval]; rfl)))); all_goals ((intro hc; first | (exfalso; simp only [push_cast, seval, *] at hc; done) | (exact absurd hc (by decide)) | ((try first | rw [Bool.not_true] at hc | rw [Bool.not_false] at hc); first | (with_reducible replace hc := tTT hc); clear hc | (with_reducible replace hc := tFF hc); clear hc | (have hp := hc; try simp only [decide_eq_true_eq, decide_eq_false_iff_not, bA, bB, bC, bD, bE, bF, bG, bH] at hp))) <;> try simp only [push_cast, seval, *]))
    | (refine Kn.go hK ?_; clear hK K)
    | refine Kn.go (by assumption) ?_
    | (intro n hn; (try simp only [upd_none2, join_none_iff, ite_none, ne_eq] at hn); (try simp only [push_cast, seval, *]))
    | (intro hc)
    | (apply ER_blk; (case hp => rfl); (case hb => (simp only [push_cast, seval]; rfl)); (case hd => (simp only [push_cast, seval]; done)); (case h => (intro hc; simp only [push_cast, seval, *]; rfl)); simp only [push_cast, seval, *])
    | fail)
    refine AW_loopN 0 (fun _ => True) (fun k => [(0, .c (.func (.yield lp) #[] #[])), (2, .p n3 1 0 0), (6, .c (.slice ad 0 0)), (7, ci 0), (8, ci k)]) (fun _ => join A B) trivial ?_ (Heap.le_refl _) ?_ ?_
    · (first | trivial | (simp only [push_cast, seval, *]; done))
    · intro k hk; omega
    · intro _
      repeat' (first
    | refine AW_seq_kn fun K hK => ?_
    | refine AW_block ?_
    | ((first
      | refine AW_region E0 ?_ | refine AW_ret ?_ | refine AW_exit ?_ | refine AW_skip ?_ | unfold retQ); try simp only [push_cast, seval, *])
    | ((first | (apply AW_cond; (case hc => (simp only [push_cast, seval]; rfl))) | (apply ER_guard; (case hb => (simp only [push_cast, seval]; rfl)))); all_goals ((intro hc; first | (exfalso; simp only [push_cast, seval, *] at hc; done) | (exact absurd hc (by decide)) | ((try first | rw [Bool.not_true] at hc | rw [Bool.not_false] at hc); first | (with_reducible replace hc := tTT hc); clear hc | (with_reducible replace hc := tFF hc); clear hc | (have hp := hc; try simp only [decide_eq_true_eq, decide_eq_false_iff_not, bA, bB, bC, bD, bE, bF, bG, bH] at hp))) <;> try simp only [push_cast, seval, *]))
    | (refine Kn.go hK ?_; clear hK K)
    | refine Kn.go (by assumption) ?_
    | (intro n hn; (try simp only [upd_none2, join_none_iff, ite_none, ne_eq] at hn); (try simp only [push_cast, seval, *]))
    | (intro hc)
    | (apply ER_blk; (case hp => rfl); (case hb => (simp only [push_cast, seval]; rfl)); (case hd => (simp only [push_cast, seval]; done)); (case h => (intro hc; simp only [push_cast, seval, *]; rfl)); simp only [push_cast, seval, *])
    | fail)
      exact ⟨_, _, Weak.refl _ _, A, B, rfl, hap, .inl ⟨rfl, by simpa using hJ⟩⟩
  · obtain ⟨pq, hpq⟩ : ∃ pq : AV × Pd → Bool, (fun q : AV × Pd => is q.2) = pq := ⟨_, rfl⟩
    have hpe : ∀ q : AV × Pd, pq q = is q.2 := fun q => by rw [← hpq]
    rw [hpq] at hr ⊢
    clear hpq
    replace hr := Lib.hid hr
    refine ACall_of' Try.func89 rfl (Ent_of Try.func89 (by kernel_rfl) rfl) (by simp [Try.ntmps89]) ?_; simp only [Try.ntmps89, Try.results89]
    repeat' (first
    | refine AW_seq_kn fun K hK => ?_
    | refine AW_block ?_
    | ((first
      | refine AW_region E0 ?_ | refine AW_ret ?_ | refine AW_exit ?_ | refine AW_skip ?_ | unfold retQ); try simp only [push_cast, seval, *])
    | ((first | (apply AW_cond; (case hc => (simp only [push_cast, seval]; rfl))) | (apply ER_guard; (case hb => (simp only [push_cast, seval]; rfl)))); all_goals ((intro hc; first | (exfalso; simp only [push_cast, seval, *] at hc; done) | (exact absurd hc (by decide)) | ((try first | rw [Bool.not_true] at hc | rw [Bool.not_false] at hc); first | (with_reducible replace hc := tTT hc); clear hc | (with_reducible replace hc := tFF hc); clear hc | (have hp := hc; try simp only [decide_eq_true_eq, decide_eq_false_iff_not, bA, bB, bC, bD, bE, bF, bG, bH] at hp))) <;> try simp only [push_cast, seval, *]))
    | (refine Kn.go hK ?_; clear hK K)
    | refine Kn.go (by assumption) ?_
    | (intro n hn; (try simp only [upd_none2, join_none_iff, ite_none, ne_eq] at hn); (try simp only [push_cast, seval, *]))
    | (intro hc)
    | (apply ER_blk; (case hp => rfl); (case hb => (simp only [push_cast, seval]; rfl)); (case hd => (simp only [push_cast, seval]; done)); (case h => (intro hc; simp only [push_cast, seval, *]; rfl)); simp only [push_cast, seval, *])
    | fail)
    refine AW_loopX (σ := Heap) L.length (fun k B => Apart A B ∧ J (cnt pq L k) B) (fun k _ => [(0, .c (.func (.yield lp) #[] #[])), (2, .p n3 1 0 0), (6, .s np 4 0 L.length cap), (7, ci L.length), (8, ci k)]) (fun _ B => join A B) B ⟨hap, hJ⟩ ?_ ?_ ?_ ?_
    · (first | trivial | (simp only [push_cast, seval, *]; done))
    · exact Heap.le_refl _
    · rintro k B1 hk ⟨hap1, hJ1⟩
      have hnp' := join_left (B := B1) hnp
      have hA3' := join_left (B := B1) hA3
      have hq := List.getElem?_eq_getElem (l := L) hk; generalize L[k] = q at hq; have hqm := List.mem_of_getElem? hq; have hkl : (k : Int) < L.length := (by omega); have hkw : IntKind.i64.wrap ((k : Int) + 1) = (k : Int) + 1 := wrap_i64 (by omega) (by omega)
      have hRk : (L.map encP)[k]? = some (encP q) := by rw [List.getElem?_map, hq]; rfl
      have htk : List.take 4 (encP q) = encP q := rfl
      have hel : (encP q).length = 4 := rfl
      have hdk : List.drop 4 (encP q) = [] := rfl
      have hcq := hcss q hqm
      have hfq := hf q hqm
      have hne := ne_old hA3'
      obtain ⟨y, p⟩ := q
      simp only at hcq hfq
      have hle : ∀ n b, A n = none → Heap.le A (join (upd A n b) B1) := fun n b hn m k hm => join_left (le_upd_new hn m k hm)
      simp only [encP, List.cons_append, List.nil_append] at hfq
      cases hp : is p
      · rw [hp] at hfq
        replace hap1 := Lib.hid hap1
        repeat' (first
    | refine AW_seq_kn fun K hK => ?_
    | refine AW_block ?_
    | ((first
      | refine AW_region E0 ?_ | refine AW_ret ?_ | refine AW_exit ?_ | refine AW_skip ?_ | unfold retQ); try simp only [push_cast, seval, *])
    | ((first | (apply AW_cond; (case hc => (simp only [push_cast, seval]; rfl))) | (apply ER_guard; (case hb => (simp only [push_cast, seval]; rfl)))); all_goals ((intro hc; first | (exfalso; simp only [push_cast, seval, *] at hc; done) | (exact absurd hc (by decide)) | ((try first | rw [Bool.not_true] at hc | rw [Bool.not_false] at hc); first | (with_reducible replace hc := tTT hc); clear hc | (with_reducible replace hc := tFF hc); clear hc | (have hp := hc; try simp only [decide_eq_true_eq, decide_eq_false_iff_not, bA, bB, bC, bD, bE, bF, bG, bH] at hp))) <;> try simp only [push_cast, seval, *]))
    | (refine Kn.go hK ?_; clear hK K)
    | refine Kn.go (by assumption) ?_
    | (intro n hn; (try simp only [upd_none2, join_none_iff, ite_none, ne_eq] at hn); (try simp only [push_cast, seval, *]))
    | (intro hc)
    | (apply ER_blk; (case hp => rfl); (case hb => (simp only [push_cast, seval]; rfl)); (case hd => (simp only [push_cast, seval]; done)); (case h => (intro hc; simp only [push_cast, seval, *]; rfl)); simp only [push_cast, seval, *])
    | fail)
        refine does_call_f rfl (by simp only [push_cast, seval]; rfl) ?_
        simp only [push_cast, seval, *]
        refine ACall.mono (hfq _ (hle _ _ hn.1)) ?_
        (rintro _ _ ⟨rfl, e2⟩; have e3 := e2.symm; clear e2; subst e3)
        (try simp only [push_cast, seval, *])
        repeat' (first
    | refine AW_seq_kn fun K hK => ?_
    | refine AW_block ?_
    | ((first
      | refine AW_region E0 ?_ | refine AW_ret ?_ | refine AW_exit ?_ | refine AW_skip ?_ | unfold retQ); try simp only [push_cast, seval, *])
    | ((first | (apply AW_cond; (case hc => (simp only [push_cast, seval]; rfl))) | (apply ER_guard; (case hb => (simp only [push_cast, seval]; rfl)))); all_goals ((intro hc; first | (exfalso; simp only [push_cast, seval, *] at hc; done) | (exact absurd hc (by decide)) | ((try first | rw [Bool.not_true] at hc | rw [Bool.not_false] at hc); first | (with_reducible replace hc := tTT hc); clear hc | (with_reducible replace hc := tFF hc); clear hc | (have hp := hc; try simp only [decide_eq_true_eq, decide_eq_false_iff_not, bA, bB, bC, bD, bE, bF, bG, bH] at hp))) <;> try simp only [push_cast, seval, *]))
    | (refine Kn.go hK ?_; clear hK K)
    | refine Kn.go (by assumption) ?_
    | (intro n hn; (try simp only [upd_none2, join_none_iff, ite_none, ne_eq] at hn); (try simp only [push_cast, seval, *]))
    | (intro hc)
    | (apply ER_blk; (case hp => rfl); (case hb => (simp only [push_cast, seval]; rfl)); (case hd => (simp only [push_cast, seval]; done)); (case h => (intro hc; simp only [push_cast, seval, *]; rfl)); simp only [push_cast, seval, *])
    | fail)
        refine ⟨B1, ⟨unhid hap1, ?_⟩, by (first | trivial | (simp only [push_cast, seval, *]; done)), Heap.le_join (le_upd_new hn.1) (Heap.le_refl _) ((unhid hap1).upd _ hn.2)⟩
        rw [cnt_neg hq (by rw [hpe]; exact hp)]; exact hJ1
      · rw [hp] at hfq
        have hy := cnt_yield (f := fun q : AV × Pd => iu q.2.num) (unhid hr) hq (by rw [hpe]; exact hp) hJ1
        simp only [iu] at hy
        replace hap1 := Lib.hid hap1
        repeat' (first
    | refine AW_seq_kn fun K hK => ?_
    | refine AW_block ?_
    | ((first
      | refine AW_region E0 ?_ | refine AW_ret ?_ | refine AW_exit ?_ | refine AW_skip ?_ | unfold retQ); try simp only [push_cast, seval, *])
    | ((first | (apply AW_cond; (case hc => (simp only [push_cast, seval]; rfl))) | (apply ER_guard; (case hb => (simp only [push_cast, seval]; rfl)))); all_goals ((intro hc; first | (exfalso; simp only [push_cast, seval, *] at hc; done) | (exact absurd hc (by decide)) | ((try first | rw [Bool.not_true] at hc | rw [Bool.not_false] at hc); first | (with_reducible replace hc := tTT hc); clear hc | (with_reducible replace hc := tFF hc); clear hc | (have hp := hc; try simp only [decide_eq_true_eq, decide_eq_false_iff_not, bA, bB, bC, bD, bE, bF, bG, bH] at hp))) <;> try simp only [push_cast, seval, *]))
    | (refine Kn.go hK ?_; clear hK K)
    | refine Kn.go (by assumption) ?_
    | (intro n hn; (try simp only [upd_none2, join_none_iff, ite_none, ne_eq] at hn); (try simp only [push_cast, seval, *]))
    | (intro hc)
    | (apply ER_blk; (case hp => rfl); (case hb => (simp only [push_cast, seval]; rfl)); (case hd => (simp only [push_cast, seval]; done)); (case h => (intro hc; simp only [push_cast, seval, *]; rfl)); simp only [push_cast, seval, *])
    | fail)
        refine does_call_f rfl (by simp only [push_cast, seval]; rfl) ?_
        simp only [push_cast, seval, *]
        refine ACall.mono (hfq _ (hle _ _ hn.1)) ?_
        (rintro _ _ ⟨rfl, e2⟩; have e3 := e2.symm; clear e2; subst e3)
        (try simp only [push_cast, seval, *])
        repeat' (first
    | refine AW_seq_kn fun K hK => ?_
    | refine AW_block ?_
    | ((first
      | refine AW_region E0 ?_ | refine AW_ret ?_ | refine AW_exit ?_ | refine AW_skip ?_ | unfold retQ); try simp only [push_cast, seval, *])
    | ((first | (apply AW_cond; (case hc => (simp only [push_cast, seval]; rfl))) | (apply ER_guard; (case hb => (simp only [push_cast, seval]; rfl)))); all_goals ((intro hc; first | (exfalso; simp only [push_cast, seval, *] at hc; done) | (exact absurd hc (by decide)) | ((try first | rw [Bool.not_true] at hc | rw [Bool.not_false] at hc); first | (with_reducible replace hc := tTT hc); clear hc | (with_reducible replace hc := tFF hc); clear hc | (have hp := hc; try simp only [decide_eq_true_eq, decide_eq_false_iff_not, bA, bB, bC, bD, bE, bF, bG, bH] at hp))) <;> try simp only [push_cast, seval, *]))
    | (refine Kn.go hK ?_; clear hK K)
    | refine Kn.go (by assumption) ?_
    | (intro n hn; (try simp only [upd_none2, join_none_iff, ite_none, ne_eq] at hn); (try simp only [push_cast, seval, *]))
    | (intro hc)
    | (apply ER_blk; (case hp => rfl); (case hb => (simp only [push_cast, seval]; rfl)); (case hd => (simp only [push_cast, seval]; done)); (case h => (intro hc; simp only [push_cast, seval, *]; rfl)); simp only [push_cast, seval, *])
    | fail)
        have hap2 : Apart (upd A n (.r 61 4 1 [[.c (.int .u64 p.num), .c (.int .i64 p.begun), .c (.bool p.save), y]])) B1 := (unhid hap1).upd _ hn.2
        refine does_yield rfl rfl ?_
        simp only [push_cast, seval, *]
        refine AYield.mono (AYield.frame hap2 hy) ?_
        rintro b H' ⟨B', rfl, hap', (⟨rfl, hJ'⟩ | ⟨rfl, hJ'⟩)⟩
        · have hap3 : Apart A B' := fun m => by
            rcases hap' m with g | g
            · exact .inl (upd_none.1 g).2
            · exact .inr g
          have hBn := hap'.right (upd_same _ _ _)
          clear hap' hap2
          replace hap3 := Lib.hid hap3
          (try simp only [push_cast, seval, *])
          repeat' (first
    | refine AW_seq_kn fun K hK => ?_
    | refine AW_block ?_
    | ((first
      | refine AW_region E0 ?_ | refine AW_ret ?_ | refine AW_exit ?_ | refine AW_skip ?_ | unfold retQ); try simp only [push_cast, seval, *])
    | ((first | (apply AW_cond; (case hc => (simp only [push_cast, seval]; rfl))) | (apply ER_guard; (case hb => (simp only [push_cast, seval]; rfl)))); all_goals ((intro hc; first | (exfalso; simp only [push_cast, seval, *] at hc; done) | (exact absurd hc (by decide)) | ((try first | rw [Bool.not_true] at hc | rw [Bool.not_false] at hc); first | (with_reducible replace hc := tTT hc); clear hc | (with_reducible replace hc := tFF hc); clear hc | (have hp := hc; try simp only [decide_eq_true_eq, decide_eq_false_iff_not, bA, bB, bC, bD, bE, bF, bG, bH] at hp))) <;> try simp only [push_cast, seval, *]))
    | (refine Kn.go hK ?_; clear hK K)
    | refine Kn.go (by assumption) ?_
    | (intro n hn; (try simp only [upd_none2, join_none_iff, ite_none, ne_eq] at hn); (try simp only [push_cast, seval, *]))
    | (intro hc)
    | (apply ER_blk; (case hp => rfl); (case hb => (simp only [push_cast, seval]; rfl)); (case hd => (simp only [push_cast, seval]; done)); (case h => (intro hc; simp only [push_cast, seval, *]; rfl)); simp only [push_cast, seval, *])
    | fail)
          exact ⟨B', ⟨unhid hap3, hJ'⟩, by (first | trivial | (simp only [push_cast, seval, *]; done)), Heap.le_join (le_upd_new hn.1) (Heap.le_refl _) ((unhid hap3).upd _ hBn)⟩
        · replace hap' := Lib.hid hap'
          clear hap2
          (try simp only [push_cast, seval, *])
          repeat' (first
    | refine AW_seq_kn fun K hK => ?_
    | refine AW_block ?_
    | ((first
      | refine AW_region E0 ?_ | refine AW_ret ?_ | refine AW_exit ?_ | refine AW_skip ?_ | unfold retQ); try simp only [push_cast, seval, *])
    | ((first | (apply AW_cond; (case hc => (simp only [push_cast, seval]; rfl))) | (apply ER_guard; (case hb => (simp only [push_cast, seval]; rfl)))); all_goals ((intro hc; first | (exfalso; simp only [push_cast, seval, *] at hc; done) | (exact absurd hc (by decide)) | ((try first | rw [Bool.not_true] at hc | rw [Bool.not_false] at hc); first | (with_reducible replace hc := tTT hc); clear hc | (with_reducible replace hc := tFF hc); clear hc | (have hp := hc; try simp only [decide_eq_true_eq, decide_eq_false_iff_not, bA, bB, bC, bD, bE, bF, bG, bH] at hp))) <;> try simp only [push_cast, seval, *]))
    | (refine Kn.go hK ?_; clear hK K)
    | refine Kn.go (by assumption) ?_
    | (intro n hn; (try simp only [upd_none2, join_none_iff, ite_none, ne_eq] at hn); (try simp only [push_cast, seval, *]))
    | (intro hc)
    | (apply ER_blk; (case hp => rfl); (case hb => (simp only [push_cast, seval]; rfl)); (case hd => (simp only [push_cast, seval]; done)); (case h => (intro hc; simp only [push_cast, seval, *]; rfl)); simp only [push_cast, seval, *])
    | fail)
          exact ⟨_, _, Weak.refl _ _, _, B', rfl, unhid hap', .inr hJ'⟩
    · rintro B1 ⟨hap1, hJ1⟩
      replace hap1 := Lib.hid hap1
      repeat' (first
    | refine AW_seq_kn fun K hK => ?_
    | refine AW_block ?_
    | ((first
      | refine AW_region E0 ?_ | refine AW_ret ?_ | refine AW_exit ?_ | refine AW_skip ?_ | unfold retQ); try simp only [push_cast, seval, *])
    | ((first | (apply AW_cond; (case hc => (simp only [push_cast, seval]; rfl))) | (apply ER_guard; (case hb => (simp only [push_cast, seval]; rfl)))); all_goals ((intro hc; first | (exfalso; simp only [push_cast, seval, *] at hc; done) | (exact absurd hc (by decide)) | ((try first | rw [Bool.not_true] at hc | rw [Bool.not_false] at hc); first | (with_reducible replace hc := tTT hc); clear hc | (with_reducible replace hc := tFF hc); clear hc | (have hp := hc; try simp only [decide_eq_true_eq, decide_eq_false_iff_not, bA, bB, bC, bD, bE, bF, bG, bH] at hp))) <;> try simp only [push_cast, seval, *]))
    | (refine Kn.go hK ?_; clear hK K)
    | refine Kn.go (by assumption) ?_
    | (intro n hn; (try simp only [upd_none2, join_none_iff, ite_none, ne_eq] at hn); (try simp only [push_cast, seval, *]))
    | (intro hc)
    | (apply ER_blk; (case hp => rfl); (case hb => (simp only [push_cast, seval]; rfl)); (case hd => (simp only [push_cast, seval]; done)); (case h => (intro hc; simp only [push_cast, seval, *]; rfl)); simp only [push_cast, seval, *])
    | fail)
      refine ⟨_, _, Weak.refl _ _, A, B1, rfl, unhid hap1, .inl ⟨rfl, ?_⟩⟩
      rw [cnt_end (f := fun q : AV × Pd => iu q.2.num) (Nat.le_refl _)] at hJ1
      simpa using hJ1
end Go.Proofs.Ytlbdpnlmdcajbaa
