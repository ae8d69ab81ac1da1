/- What an ack does: where it is to be. -/
import Derived.Test.YtlbdpnlmdcajbaaL
import Derived.Test.YtlbdpnlmdcajbaaF2
import Derived.Test.YtlbdpnlmdcajbaaG
namespace Go.Proofs.Ytlbdpnlmdcajbaa
open Go.RowKit
open Nat renaming reduceEqDiff → nA, reduceLT → nB, reduceLeDiff → nC, reduceAdd → nD, reduceMul → nE, reduceSub → nF, reduceBEq → nG
open Int renaming reduceToNat → iA, reduceLT → iB, reduceLE → iC, reduceEq → iD
open Bool renaming and_eq_true → bA, or_eq_true → bB, or_eq_false_iff → bC, and_eq_false_iff → bD, not_eq_true' → bE, not_eq_false' → bF, not_true → bG, not_false → bH
set_option linter.all false
set_option maxHeartbeats 4000000
attribute [local irreducible] AW Does ACall tE tS tB tZ
set_option maxRecDepth 5000

theorem bsA_a {α : Type} (enc : α → List AV) (he : ∀ x, (enc x).length = 2) (l : List α) (hl : l.length ≤ 1000000) (c : α → Int) (hm : ∀ (i j : Nat) (x y : α), i < j → l[i]? = some x → l[j]? = some y → c y < 0 → c x < 0) (tv : AV) (htv : tv.one = true) (gf : FuncId) (caps : List AV) (H : Heap)
    (hf : ∀ x ∈ l, ACall Try.prog gf ([.g (enc x), tv] ++ caps) H fun r H' => r = .c (.int .i64 (c x)) ∧ H' = H) :
    ACall Try.prog 64 [.l 2 (l.map enc), tv, .f (.func gf) [] caps] H fun r H' => r = .t [.c (.int .i64 (lbd (fun x => decide (c x < 0)) l : Nat)), .c (.bool (bsF c l))] ∧ H' = H := by
  have hbs := fun (i : Nat) (x : α) (hi : i = lbd (fun x => decide (c x < 0)) l) (hx : l[i]? = some x) => bsF_some (c := c) hi hx
  have hbn := fun (i : Nat) (hi : i = lbd (fun x => decide (c x < 0)) l) (hx : l[i]? = none) => bsF_none (c := c) hi hx
  generalize bsF c l = bs at *
  have hlb := lbd_le (fun x => decide (c x < 0)) l
  have hup := fun (h : Nat) (x : α) (hx : l[h]? = some x) (hc : c x < 0) => lbd_up (p := fun x => decide (c x < 0)) hx (fun i y hi hy => by
    by_cases e : i = h
    · subst e; rw [hx] at hy; cases hy; simpa using hc
    · simpa using hm i h y x (by omega) hy hx hc)
  have hdn := fun (h : Nat) (x : α) (hx : l[h]? = some x) (hc : ¬ c x < 0) => lbd_dn (p := fun x => decide (c x < 0)) hx (by simpa using hc)
  clear hm
  generalize lbd (fun x => decide (c x < 0)) l = lb at *
  replace hup := Lib.hid hup
  replace hdn := Lib.hid hdn
  replace hbs := Lib.hid hbs
  replace hbn := Lib.hid hbn
  refine ACall_of' Try.func64 rfl (Ent_of Try.func64 (by kernel_rfl) rfl) (by simp [Try.ntmps64]) ?_; simp only [Try.ntmps64, Try.results64]
  repeat' (first
    | refine AW_seq_kn fun K hK => ?_
    | refine AW_block ?_
    | ((first
      | refine AW_region E0 ?_ | refine AW_ret ?_ | refine AW_exit ?_ | refine AW_skip ?_ | unfold retQ); try simp only [push_cast, seval, *])
    | ((first | (apply AW_cond; (case hc => (simp only [push_cast, seval]; rfl))) | (apply ER_guard; (case hb => (simp only [push_cast, seval]; rfl)))); all_goals ((intro hc; first | (exfalso; simp only [push_cast, seval, *] at hc; done) | (exact absurd hc (by decide)) | ((try first | rw [Bool.not_true] at hc | rw [Bool.not_false] at hc); first | (with_reducible replace hc := tTT hc); clear hc | (with_reducible replace hc := tFF hc); clear hc | (have hp := hc; try simp only [decide_eq_true_eq, decide_eq_false_iff_not, bA, bB, bC, bD, bE, bF, bG, bH] at hp))) <;> try simp only [push_cast, seval, *]))
    | (refine Kn.go hK ?_; clear hK K)
    | refine Kn.go (by assumption) ?_
    | (intro n hn; (try simp only [upd_none2, join_none_iff, ite_none, ne_eq] at hn); (try simp only [push_cast, seval, *]))
    | (intro hc)
    | (apply ER_blk; (case hp => rfl); (case hb => (simp only [push_cast, seval]; rfl)); (case hd => (simp only [push_cast, seval]; done)); (case h => (intro hc; simp only [push_cast, seval, *]; rfl)); simp only [push_cast, seval, *])
    | fail)
  refine AW_loopS (σ := Nat × Nat) (fun s => s.1 ≤ lb ∧ lb ≤ s.2 ∧ s.2 ≤ l.length) (fun s => [(0, .l 2 (l.map enc)), (1, tv), (2, .f (.func gf) [] caps), (8, ci l.length), (9, ci s.1), (10, ci s.2)]) (fun _ => H) (fun s => s.2 - s.1) (0, l.length) ⟨by omega, hlb, Nat.le_refl _⟩ ?_ (Heap.le_refl _) ?_
  · (first | trivial | (simp only [push_cast, seval, *]; done))
  · rintro ⟨i, j⟩ ⟨hi, hj, hjl⟩
    simp only at hi hj hjl
    by_cases hij : i < j
    · have hijI : (i : Int) < j := by omega
      have hw1 : IntKind.i64.wrap ((i : Int) + j) = (i : Int) + j := wrap_i64 (by omega) (by omega)
      have hw2 : IntKind.u64.wrap ((i : Int) + j) = (i : Int) + j := wrap_u64 (by omega) (by omega)
      have hfd := fdiv2 i j
      obtain ⟨h, hh⟩ : ∃ h, h = (i + j) / 2 := ⟨_, rfl⟩
      rw [← hh] at hfd
      have hw3 : IntKind.i64.wrap (h : Int) = h := wrap_i64 (by omega) (by omega)
      have hw4 : IntKind.i64.wrap ((h : Int) + 1) = (h : Int) + 1 := wrap_i64 (by omega) (by omega)
      have hhl : h < l.length := by omega
      have hhI : (h : Int) < l.length := by omega
      obtain ⟨x, hx⟩ : ∃ x, l[h]? = some x := ⟨_, List.getElem?_eq_getElem hhl⟩
      have htk : List.take 2 (enc x) = enc x := List.take_of_length_le (Nat.le_of_eq (he x))
      have hex := he x
      have hcall := hf x (List.mem_of_getElem? hx)
      simp only [push_cast, seval] at hcall
      replace hh := Lib.hid hh
      clear hf
      by_cases hc : c x < 0
      · repeat' (first
    | refine AW_seq_kn fun K hK => ?_
    | refine AW_block ?_
    | (refine does_call_f rfl (by simp only [push_cast, seval]; rfl) ?_; simp only [push_cast, seval, *]; refine hcall.mono ?_; (rintro _ _ ⟨rfl, e2⟩; have e3 := e2.symm; clear e2; subst e3); (try simp only [push_cast, seval, *]))
    | ((first
      | refine AW_region E0 ?_ | refine AW_ret ?_ | refine AW_exit ?_ | refine AW_skip ?_ | unfold retQ); try simp only [push_cast, seval, *])
    | ((first | (apply AW_cond; (case hc => (simp only [push_cast, seval]; rfl))) | (apply ER_guard; (case hb => (simp only [push_cast, seval]; rfl)))); all_goals ((intro hc; first | (exfalso; simp only [push_cast, seval, *] at hc; done) | (exact absurd hc (by decide)) | ((try first | rw [Bool.not_true] at hc | rw [Bool.not_false] at hc); first | (with_reducible replace hc := tTT hc); clear hc | (with_reducible replace hc := tFF hc); clear hc | (have hp := hc; try simp only [decide_eq_true_eq, decide_eq_false_iff_not, bA, bB, bC, bD, bE, bF, bG, bH] at hp))) <;> try simp only [push_cast, seval, *]))
    | (refine Kn.go hK ?_; clear hK K)
    | refine Kn.go (by assumption) ?_
    | (intro n hn; (try simp only [upd_none2, join_none_iff, ite_none, ne_eq] at hn); (try simp only [push_cast, seval, *]))
    | (intro hc)
    | (apply ER_blk; (case hp => rfl); (case hb => (simp only [push_cast, seval]; rfl)); (case hd => (simp only [push_cast, seval]; done)); (case h => (intro hc; simp only [push_cast, seval, *]; rfl)); simp only [push_cast, seval, *])
    | fail)
        have := unhid hup h x hx hc
        exact ⟨(h + 1, j), ⟨by simp only; omega, hj, hjl⟩, by (first | trivial | (simp only [push_cast, seval, *]; done)), by have := unhid hh; simp only; omega⟩
      · repeat' (first
    | refine AW_seq_kn fun K hK => ?_
    | refine AW_block ?_
    | (refine does_call_f rfl (by simp only [push_cast, seval]; rfl) ?_; simp only [push_cast, seval, *]; refine hcall.mono ?_; (rintro _ _ ⟨rfl, e2⟩; have e3 := e2.symm; clear e2; subst e3); (try simp only [push_cast, seval, *]))
    | ((first
      | refine AW_region E0 ?_ | refine AW_ret ?_ | refine AW_exit ?_ | refine AW_skip ?_ | unfold retQ); try simp only [push_cast, seval, *])
    | ((first | (apply AW_cond; (case hc => (simp only [push_cast, seval]; rfl))) | (apply ER_guard; (case hb => (simp only [push_cast, seval]; rfl)))); all_goals ((intro hc; first | (exfalso; simp only [push_cast, seval, *] at hc; done) | (exact absurd hc (by decide)) | ((try first | rw [Bool.not_true] at hc | rw [Bool.not_false] at hc); first | (with_reducible replace hc := tTT hc); clear hc | (with_reducible replace hc := tFF hc); clear hc | (have hp := hc; try simp only [decide_eq_true_eq, decide_eq_false_iff_not, bA, bB, bC, bD, bE, bF, bG, bH] at hp))) <;> try simp only [push_cast, seval, *]))
    | (refine Kn.go hK ?_; clear hK K)
    | refine Kn.go (by assumption) ?_
    | (intro n hn; (try simp only [upd_none2, join_none_iff, ite_none, ne_eq] at hn); (try simp only [push_cast, seval, *]))
    | (intro hc)
    | (apply ER_blk; (case hp => rfl); (case hb => (simp only [push_cast, seval]; rfl)); (case hd => (simp only [push_cast, seval]; done)); (case h => (intro hc; simp only [push_cast, seval, *]; rfl)); simp only [push_cast, seval, *])
    | fail)
        have := unhid hdn h x hx hc
        exact ⟨(i, h), ⟨hi, this, by simp only; omega⟩, by (first | trivial | (simp only [push_cast, seval, *]; done)), by have := unhid hh; simp only; omega⟩
    · have hijF : ¬ (i : Int) < j := by omega
      obtain rfl : i = lb := by omega
      clear hup hdn hi hj
      by_cases hl2 : i < l.length
      · have hl2I : (i : Int) < l.length := by omega
        obtain ⟨x, hx⟩ : ∃ x, l[i]? = some x := ⟨_, List.getElem?_eq_getElem hl2⟩
        have htk : List.take 2 (enc x) = enc x := List.take_of_length_le (Nat.le_of_eq (he x))
        have hex := he x
        have hcall := hf x (List.mem_of_getElem? hx)
        simp only [push_cast, seval] at hcall
        clear hf
        repeat' (first
    | refine AW_seq_kn fun K hK => ?_
    | refine AW_block ?_
    | (refine does_call_f rfl (by simp only [push_cast, seval]; rfl) ?_; simp only [push_cast, seval, *]; refine hcall.mono ?_; (rintro _ _ ⟨rfl, e2⟩; have e3 := e2.symm; clear e2; subst e3); (try simp only [push_cast, seval, *]))
    | ((first
      | refine AW_region E0 ?_ | refine AW_ret ?_ | refine AW_exit ?_ | refine AW_skip ?_ | unfold retQ); try simp only [push_cast, seval, *])
    | ((first | (apply AW_cond; (case hc => (simp only [push_cast, seval]; rfl))) | (apply ER_guard; (case hb => (simp only [push_cast, seval]; rfl)))); all_goals ((intro hc; first | (exfalso; simp only [push_cast, seval, *] at hc; done) | (exact absurd hc (by decide)) | ((try first | rw [Bool.not_true] at hc | rw [Bool.not_false] at hc); first | (with_reducible replace hc := tTT hc); clear hc | (with_reducible replace hc := tFF hc); clear hc | (have hp := hc; try simp only [decide_eq_true_eq, decide_eq_false_iff_not, bA, bB, bC, bD, bE, bF, bG, bH] at hp))) <;> try simp only [push_cast, seval, *]))
    | (refine Kn.go hK ?_; clear hK K)
    | refine Kn.go (by assumption) ?_
    | (intro n hn; (try simp only [upd_none2, join_none_iff, ite_none, ne_eq] at hn); (try simp only [push_cast, seval, *]))
    | (intro hc)
    | (apply ER_blk; (case hp => rfl); (case hb => (simp only [push_cast, seval]; rfl)); (case hd => (simp only [push_cast, seval]; done)); (case h => (intro hc; simp only [push_cast, seval, *]; rfl)); simp only [push_cast, seval, *])
    | fail)
        exact ⟨_, _, Weak.refl _ _, by rw [unhid hbs i x rfl hx], rfl⟩
      · have hl2I : ¬ (i : Int) < l.length := by omega
        have hx : l[i]? = none := List.getElem?_eq_none (by omega)
        repeat' (first
    | refine AW_seq_kn fun K hK => ?_
    | refine AW_block ?_
    | ((first
      | refine AW_region E0 ?_ | refine AW_ret ?_ | refine AW_exit ?_ | refine AW_skip ?_ | unfold retQ); try simp only [push_cast, seval, *])
    | ((first | (apply AW_cond; (case hc => (simp only [push_cast, seval]; rfl))) | (apply ER_guard; (case hb => (simp only [push_cast, seval]; rfl)))); all_goals ((intro hc; first | (exfalso; simp only [push_cast, seval, *] at hc; done) | (exact absurd hc (by decide)) | ((try first | rw [Bool.not_true] at hc | rw [Bool.not_false] at hc); first | (with_reducible replace hc := tTT hc); clear hc | (with_reducible replace hc := tFF hc); clear hc | (have hp := hc; try simp only [decide_eq_true_eq, decide_eq_false_iff_not, bA, bB, bC, bD, bE, bF, bG, bH] at hp))) <;> try simp only [push_cast, seval, *]))
    | (refine Kn.go hK ?_; clear hK K)
    | refine Kn.go (by assumption) ?_
    | (intro n hn; (try simp only [upd_none2, join_none_iff, ite_none, ne_eq] at hn); (try simp only [push_cast, seval, *]))
    | (intro hc)
    | (apply ER_blk; (case hp => rfl); (case hb => (simp only [push_cast, seval]; rfl)); (case hd => (simp only [push_cast, seval]; done)); (case h => (intro hc; simp only [push_cast, seval, *]; rfl)); simp only [push_cast, seval, *])
    | fail)
        exact ⟨_, _, Weak.refl _ _, by rw [unhid hbn i rfl hx], rfl⟩

theorem ackCmp_p (x : Ak) (t : Int) (hw : IntKind.i64.wrap (x.task - t) = x.task - t) : Pure Try.prog 65 [.g (Ak.av x), .c (.int .i64 t)] (.c (.int .i64 (x.task - t))) := by
  intro H
  obtain ⟨xt, xb⟩ := x
  simp only [Ak.av] at *
  refine ACall_of' Try.func65 rfl (Ent_of Try.func65 (by kernel_rfl) rfl) (by simp [Try.ntmps65]) ?_; simp only [Try.ntmps65, Try.results65]
  repeat' (first
    | refine AW_seq_kn fun K hK => ?_
    | refine AW_block ?_
    | ((first
      | refine AW_region E0 ?_ | refine AW_ret ?_ | refine AW_exit ?_ | refine AW_skip ?_ | unfold retQ); try simp only [push_cast, seval, *])
    | (apply AW_cond; (case hc => (simp only [push_cast, seval]; rfl)); all_goals (intro hc; first | (exfalso; simp only [push_cast, seval, *] at hc; done) | (exact absurd hc (by decide)) | ((try first | rw [Bool.not_true] at hc | rw [Bool.not_false] at hc); first | (with_reducible replace hc := tTT hc); clear hc | (with_reducible replace hc := tFF hc); clear hc | (have hp := hc; try simp only [decide_eq_true_eq, decide_eq_false_iff_not, bA, bB, bC, bD, bE, bF, bG, bH] at hp))))
    | (refine Kn.go hK ?_; clear hK K)
    | refine Kn.go (by assumption) ?_
    | (intro n hn; (try simp only [upd_none2, join_none_iff, ite_none, ne_eq] at hn); (try simp only [push_cast, seval, *]))
    | (intro hc)
    | fail)
  exact ⟨_, _, Weak.less (by (simp only [push_cast, seval, *])), rfl, rfl⟩
def ackK (l : List Ak) (t : Int) : Nat := lbd (fun b => decide (b.task - t < 0)) l
def ackHas (l : List Ak) (t : Int) : Bool := bsF (fun b => b.task - t) l
/-- tasks rise -/
theorem akGo_rise (tasks : Int) : ∀ (l : List Ak) (last : Int), akGo tasks last l = true → ∀ (i j : Nat) (x y : Ak), i < j → l[i]? = some x → l[j]? = some y → x.task < y.task
  | [], _, _, i, j, x, y, _, hx, _ => by simp at hx
  | a :: l, last, h, i, j, x, y, hij, hx, hy => by
    unfold akGo at h
    split at h
    · cases j with
      | zero => omega
      | succ j =>
        simp only [List.getElem?_cons_succ] at hy
        cases i with
        | zero =>
          simp only [List.getElem?_cons_zero, Option.some.injEq] at hx
          subst hx
          exact ((akGo_len tasks l a.task h).2 y (List.mem_of_getElem? hy)).1
        | succ i =>
          simp only [List.getElem?_cons_succ] at hx
          exact akGo_rise tasks l a.task h i j x y (by omega) hx hy
    · cases h
theorem bs_own (y : AV) (l : List Ak) (tasks : Int) (hts : tasks ≤ 16) (hok : akGo tasks (-1) l = true) (t : Int) (ht : 0 ≤ t ∧ t ≤ 16) (A K : Heap) (h : OwnA y l A K) :
    ACall Try.prog 64 [y, .c (.int .i64 t), .c (.func (.func 65) #[] #[])] A fun r A' => r = .t [.c (.int .i64 (ackK l t : Nat)), .c (.bool (ackHas l t))] ∧ A' = A := by
  obtain ⟨h1, h2⟩ := akGo_len tasks l (-1) hok
  refine ACall.lend (args' := [.l 2 (l.map Ak.av), .c (.int .i64 t), .f (.func 65) [] []]) (Flat.two _ _) (show Lent _ _ _ ∧ Lent _ _ _ ∧ Lent _ _ _ ∧ True from ⟨OwnA_lent h, Lent.refl _ _, fun F w v _ hv => Imp.fn (F := F) (F' := F0 w) _ v hv, trivial⟩) ?_
  refine (bsA_a Ak.av (fun _ => rfl) l (by omega) (fun b => b.task - t) (fun i j x y hij hx hy hc => ?_) (.c (.int .i64 t)) rfl 65 [] (fun _ => none) (fun x hx => ?_)).mono fun r H' h => h.1
  · have := akGo_rise tasks l (-1) hok i j x y hij hx hy
    omega
  · have := h2 x hx
    exact ackCmp_p x t (wrap_i64 (by omega) (by omega)) _
/-- an ack is put in: what becomes of a row of one's own -/
theorem OwnA.ins {y z : AV} {l : List Ak} {a : Ak} {A G1 K : Heap} (ho : OwnA y l A K) (hz : OwnL G1 z 5 1 (a.bytes.map by1) A) :
    ∃ (M : List (AV × Ak)) (B1 B' : Heap), M.map Prod.snd = l ∧ OwnL G1 y 47 2 (M.map encA) B' ∧ (∀ (k : Nat) (r : AV) (H' : Heap), OwnL H' r 47 2 ((M.map encA).take k ++ [encA (z, a)] ++ (M.map encA).drop k) B' → OwnA r (l.take k ++ [a] ++ l.drop k) H' K) := by
  obtain ⟨M, rfl, B1, o1, o2⟩ := ho
  obtain ⟨B', p1, p2⟩ := OwnL.swap hz o1
  refine ⟨M, B1, B', rfl, p1, fun k r H' h => ⟨M.take k ++ [(z, a)] ++ M.drop k, by simp, B', by simpa using h, ?_⟩⟩
  exact Chain.ins RA_loc p2 o2
/-- one of the pendings is taken out, to be turned -/
theorem OwnP.open {x : AV} {l : List Pd} {A K : Heap} {i : Nat} {p : Pd} (h : OwnP x l A K) (hp : l[i]? = some p) :
    ∃ np cap R y A3, x = .s np 4 0 l.length cap ∧ R.length = l.length ∧ R[i]? = some (encP (y, p)) ∧ A np = some (.r 61 4 cap R) ∧ A3 np = some (.r 61 4 cap R) ∧ OwnA y p.acks A A3 ∧ (∀ m b, m ≠ np → K m = some b → A3 m = some b) ∧
      ∀ (y' : AV) (p' : Pd) (H' : Heap), OwnA y' p'.acks H' (upd A3 np (.r 61 4 cap (R.set i (encP (y', p'))))) → OwnP x (l.set i p') H' K := by
  obtain ⟨L, rfl, A1, o1, o2⟩ := h
  rw [List.getElem?_map] at hp
  obtain ⟨⟨y, p2⟩, hq, rfl⟩ := Option.map_eq_some_iff.1 hp
  have hi := (List.getElem?_eq_some_iff.1 hq).1
  obtain ⟨A2, c1, c2⟩ := o2.pick RP_loc hq
  rcases o1.split with ⟨ad, rfl, e, rfl⟩ | ⟨np, cap, rfl, rfl, hnp⟩
  · rw [List.map_eq_nil_iff.1 e] at hi; simp at hi
  have hnp2 : A2 np = none := (RP_loc y p2).old c1 hnp
  have c3 := (RP_loc y p2).new c1 hnp (.r 61 4 cap (L.map encP))
  refine ⟨np, cap, L.map encP, y, upd A2 np (.r 61 4 cap (L.map encP)), by simp, by simp, by rw [List.getElem?_map, hq]; rfl, upd_same _ _ _, upd_same _ _ _, c3, fun m b hm hb => by rw [upd_ne hm]; exact (Loc.chain RP_loc _).get c2 hb, fun y' p' H' h' => ?_⟩
  rw [upd_upd] at h'
  have e1 : (L.map encP).set i (encP (y', p')) = (L.set i (y', p')).map encP := by rw [List.map_set]
  rw [e1] at h'
  obtain ⟨C1, d1, d2⟩ := (OwnA_loc y' p'.acks).swap (Loc.own (.s np 4 0 (L.map encP).length cap) 61 4 ((L.set i (y', p')).map encP)) h' (OwnL.at (by simp) hnp2)
  exact ⟨L.set i (y', p'), by rw [List.map_set], C1, d1, Chain.put RP_loc d2 c2 hi⟩
end Go.Proofs.Ytlbdpnlmdcajbaa
