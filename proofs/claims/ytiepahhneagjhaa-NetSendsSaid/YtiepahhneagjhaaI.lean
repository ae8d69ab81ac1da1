/- Walks: a parcel comes. -/
import Derived.Test.YtiepahhneagjhaaH
namespace Go.Proofs.Ytiepahhneagjhaa
open Go.RowKit
open Nat renaming reduceEqDiff → nA, reduceLT → nB, reduceLeDiff → nC, reduceAdd → nD, reduceMul → nE, reduceSub → nF, reduceBEq → nG
open Int renaming reduceToNat → iA, reduceLT → iB, reduceLE → iC, reduceEq → iD
open Bool renaming and_eq_true → bA, or_eq_true → bB, or_eq_false_iff → bC, and_eq_false_iff → bD, not_eq_true' → bE, not_eq_false' → bF, not_true → bG, not_false → bH
set_option linter.all false
set_option maxHeartbeats 4000000
attribute [local irreducible] AW Does ACall tE tS tB tZ
def dLI0 : List En := [(0, false, []), (1, false, []), (2, false, []), (3, false, []), (4, false, []), (5, false, []), (6, false, []), (7, false, [])]
def dAI0 : List (List Nat) := [[], [], [0, 1], [], [], [3, 4], [0, 1, 2, 3, 4, 5], [0, 1, 2, 3, 4, 5, 6]]
attribute [push_cast] dLI0
def dLI1 : List En := [(0, false, []), (1, true, []), (2, false, []), (3, false, [1]), (4, false, []), (5, false, [])]
def dAI1 : List (List Nat) := [[], [], [], [0], [0, 1, 3], [0, 1, 2, 3, 4]]
attribute [push_cast] dLI1

theorem goP_rise {s : Int} : ∀ {l : List Pk} {a : Int}, goP s a l = true → (∀ p ∈ l, a < p.num ∧ p.num ≤ s) ∧ ∀ (i j : Nat) (x y : Pk), i < j → l[i]? = some x → l[j]? = some y → x.num < y.num
  | [], a, _ => ⟨fun p hp => by simp at hp, fun i j x y _ hx => by simp at hx⟩
  | p :: l, a, h => by
    simp only [goP, Bool.and_eq_true] at h
    obtain ⟨h1, h2⟩ := h
    rw [pkOk_iff] at h1
    obtain ⟨g1, g2⟩ := goP_rise h2
    refine ⟨fun q hq => ?_, fun i j x y hij hx hy => ?_⟩
    · rcases List.mem_cons.1 hq with rfl | hq
      · exact ⟨h1.1, h1.2.1⟩
      · have := g1 q hq; exact ⟨by omega, this.2⟩
    · cases j with
      | zero => omega
      | succ j =>
        simp at hy
        cases i with
        | zero => simp at hx; subst hx; exact (g1 y (List.mem_of_getElem? hy)).1
        | succ i => simp at hx; exact g2 i j x y (by omega) hx hy
theorem nOk_go {n : Nt} (h : nOk n = true) : goP n.sent 0 n.ps = true := by
  simp only [nOk, Bool.and_eq_true] at h; exact h.2
abbrev atK (num : Int) (l : List Pk) : Nat := lbd (fun p : Pk => decide (cmpI p.num num < 0)) l
abbrev fnd (num : Int) (l : List Pk) : Bool := bsF (fun p : Pk => cmpI p.num num) l
theorem bsP_p (num : Int) (l : List Pk) (s : Int) (hl : l.length ≤ 1000) (hg : goP s 0 l = true) : Pure Try.prog 100 [.l 4 (l.map Pk.av), .c (.int .u64 num), .c (.func (.func 101) #[] #[])] (.t [.c (.int .i64 (atK num l)), .c (.bool (fnd num l))]) := fun H => by
  refine ACall.argw (fun F => Imps.cons (Imp.refl (Mem.le.refl F) _) id (Imps.cons (Imp.refl (Mem.le.refl F) _) id (Imps.cons (Imp.fn _) (fun _ => rfl) Imps.nil)))
    (bsP_a Pk.av (fun _ => rfl) l (by omega) (fun p => cmpI p.num num) (fun i j x y hij hx hy hc => ?_) (.c (.int .u64 num)) rfl 101 [] H fun x hx => by simpa using at1_p x num H)
  rw [cmpI_neg] at hc ⊢
  have := (goP_rise hg).2 i j x y hij hx hy; omega
theorem at_a (num : Int) (l : List Pk) (s : Int) (hl : l.length ≤ 1000) (hg : goP s 0 l = true) (B H0 : Heap) (x : AV) (nb : Nat) (sv : AV) (hcv : sv.cs = some [sv]) (k0 : B nb = some (.r 25 2 1 [[sv, x]])) (hown : OwnL B x 34 4 (l.map Pk.av) H0) :
    ACall Try.prog 59 [.p nb 2 0 0, .c (.int .u64 num)] B fun r H' => r = .t [.c (.int .i64 (atK num l)), .c (.bool (fnd num l))] ∧ H' = B := by
  have hcs := hown.cs
  have hb : ACall Try.prog 100 [x, .c (.int .u64 num), .c (.func (.func 101) #[] #[])] B fun r H' => r = .t [.c (.int .i64 (atK num l)), .c (.bool (fnd num l))] ∧ H' = B :=
    ACall.lend (Flat.two _ _) (show Lents B [x, .c (.int .u64 num), .c (.func (.func 101) #[] #[])] [.l 4 (l.map Pk.av), .c (.int .u64 num), .c (.func (.func 101) #[] #[])] from ⟨hown.lent, Lent.refl _ _, Lent.refl _ _, trivial⟩) (bsP_p num l s hl hg).cl
  clear hown hg
  generalize atK num l = K0 at *
  generalize fnd num l = F0 at *
  refine ACall_of' Try.func59 rfl (Ent_of Try.func59 (by kernel_rfl) rfl) (by simp [Try.ntmps59]) ?_; simp only [Try.ntmps59, Try.results59]
  repeat' (first
    | refine AW_seq_kn fun K hK => ?_
    | refine AW_block ?_
    | (refine does_call rfl rfl ?_; simp only [push_cast, reduceIte, nA, nB, nC, reduceCtorEq, nD, nE, nF, nG, iA, iB, iC, iD, *]; refine ACall.mono hb ?_; (rintro _ _ ⟨rfl, e2⟩; have e3 := e2.symm; clear e2; subst e3); (try simp only [push_cast, reduceIte, nA, nB, nC, reduceCtorEq, nD, nE, nF, nG, iA, iB, iC, iD, *]))
    | ((first
      | refine AW_region E1 ?_ | refine AW_ret ?_ | refine AW_exit ?_ | refine AW_skip ?_ | unfold retQ); try simp only [push_cast, reduceIte, nA, nB, nC, reduceCtorEq, nD, nE, nF, nG, iA, iB, iC, iD, *])
    | (apply AW_cond; (case hc => (simp only [push_cast, reduceIte, nA, nB, nC, reduceCtorEq, nD, nE, nF, nG, iA, iB, iC, iD]; rfl)); all_goals (intro hc; first | (exfalso; simp only [push_cast, reduceIte, nA, nB, nC, reduceCtorEq, nD, nE, nF, nG, iA, iB, iC, iD, *] at hc; done) | (exact absurd hc (by decide)) | (with_reducible (have hcc : true = true := hc); clear hcc hc) | (with_reducible (have hcc : false = false := hc); clear hcc hc) | ((try simp only [Bool.not_true, Bool.not_false] at hc); (first | (with_reducible (have hcc : true = true := hc); clear hcc hc) | (with_reducible (have hcc : false = false := hc); clear hcc hc) | (have hp := hc; (try simp only [decide_eq_true_eq, decide_eq_false_iff_not, bA, bB, bC, bD, bE, bF, bG, bH] at hp))))))
    | (refine Kn.go hK ?_; clear hK K)
    | refine Kn.go (by assumption) ?_
    | (intro n hn; (try simp only [upd_none2, join_none_iff, ite_none, ne_eq] at hn); (try simp only [push_cast, reduceIte, nA, nB, nC, reduceCtorEq, nD, nE, nF, nG, iA, iB, iC, iD, *]))
    | (intro hc)
    | fail)
  exact ⟨_, _, Weak.refl _ _, rfl, rfl⟩
theorem pdel {rows : List (List AV)} {n cap i j : Nat} (H : Heap) (hn : H n = some (.r 34 4 cap rows)) (hij : i ≤ j) (hj : j ≤ rows.length) :
    ACall Try.prog 61 [.s n 4 0 rows.length cap, .c (.int .i64 i), .c (.int .i64 j)] H fun r H' => r = .s n 4 0 (rows.take i ++ rows.drop j).length cap ∧ H' = upd H n (.r 34 4 cap (rows.take i ++ rows.drop j)) := by
  refine ACall.blk (Ent_of Try.func61 (by kernel_rfl) rfl) hn fun hcap hmax _ _ => ?_
  have hcapI : (rows.length : Int) ≤ cap := by omega
  have hijI : (i : Int) ≤ j := by omega
  have hjI : (j : Int) ≤ rows.length := by omega
  have hiI : (i : Int) ≤ rows.length := by omega
  have hicI : (i : Int) ≤ cap := by omega
  have hjcI : (j : Int) ≤ cap := by omega
  by_cases e : i = j
  · subst e
    refine ACall_of' Try.func61 rfl (Ent_of Try.func61 (by kernel_rfl) rfl) (by simp [Try.ntmps61]) ?_; simp only [Try.ntmps61, Try.results61]
    repeat' (first
    | refine AW_seq_kn fun K hK => ?_
    | refine AW_block ?_
    | ((first
      | refine AW_region_draw (id := 5) E1 (fun f => [].contains f) dLI0 dAI0 mixed (by kernel_rfl) ?_
      | refine AW_region E1 ?_ | refine AW_ret ?_ | refine AW_exit ?_ | refine AW_skip ?_ | unfold retQ); try simp only [push_cast, reduceIte, nA, nB, nC, reduceCtorEq, nD, nE, nF, nG, iA, iB, iC, iD, *])
    | (apply AW_cond; (case hc => (simp only [push_cast, reduceIte, nA, nB, nC, reduceCtorEq, nD, nE, nF, nG, iA, iB, iC, iD]; rfl)); all_goals (intro hc; first | (exfalso; simp only [push_cast, reduceIte, nA, nB, nC, reduceCtorEq, nD, nE, nF, nG, iA, iB, iC, iD, *] at hc; done) | (exact absurd hc (by decide)) | (with_reducible (have hcc : true = true := hc); clear hcc hc) | (with_reducible (have hcc : false = false := hc); clear hcc hc) | ((try simp only [Bool.not_true, Bool.not_false] at hc); (first | (with_reducible (have hcc : true = true := hc); clear hcc hc) | (with_reducible (have hcc : false = false := hc); clear hcc hc) | (have hp := hc; (try simp only [decide_eq_true_eq, decide_eq_false_iff_not, bA, bB, bC, bD, bE, bF, bG, bH] at hp))))))
    | (refine Kn.go hK ?_; clear hK K)
    | refine Kn.go (by assumption) ?_
    | (intro n hn; (try simp only [upd_none2, join_none_iff, ite_none, ne_eq] at hn); (try simp only [push_cast, reduceIte, nA, nB, nC, reduceCtorEq, nD, nE, nF, nG, iA, iB, iC, iD, *]))
    | (intro hc)
    | fail)
    refine ⟨_, _, Weak.refl _ _, ?_, ?_⟩
    · rw [List.take_append_drop]
    · rw [List.take_append_drop, upd_self hn]
  · have heI : ¬ (i : Int) = j := by omega
    refine ACall_of' Try.func61 rfl (Ent_of Try.func61 (by kernel_rfl) rfl) (by simp [Try.ntmps61]) ?_; simp only [Try.ntmps61, Try.results61]
    repeat' (first
    | refine AW_seq_kn fun K hK => ?_
    | refine AW_block ?_
    | ((first
      | refine AW_region_draw (id := 5) E1 (fun f => [].contains f) dLI0 dAI0 mixed (by kernel_rfl) ?_
      | refine AW_region E1 ?_ | refine AW_ret ?_ | refine AW_exit ?_ | refine AW_skip ?_ | unfold retQ); try simp only [push_cast, reduceIte, nA, nB, nC, reduceCtorEq, nD, nE, nF, nG, iA, iB, iC, iD, *])
    | (apply AW_cond; (case hc => (simp only [push_cast, reduceIte, nA, nB, nC, reduceCtorEq, nD, nE, nF, nG, iA, iB, iC, iD]; rfl)); all_goals (intro hc; first | (exfalso; simp only [push_cast, reduceIte, nA, nB, nC, reduceCtorEq, nD, nE, nF, nG, iA, iB, iC, iD, *] at hc; done) | (exact absurd hc (by decide)) | (with_reducible (have hcc : true = true := hc); clear hcc hc) | (with_reducible (have hcc : false = false := hc); clear hcc hc) | ((try simp only [Bool.not_true, Bool.not_false] at hc); (first | (with_reducible (have hcc : true = true := hc); clear hcc hc) | (with_reducible (have hcc : false = false := hc); clear hcc hc) | (have hp := hc; (try simp only [decide_eq_true_eq, decide_eq_false_iff_not, bA, bB, bC, bD, bE, bF, bG, bH] at hp))))))
    | (refine Kn.go hK ?_; clear hK K)
    | refine Kn.go (by assumption) ?_
    | (intro n hn; (try simp only [upd_none2, join_none_iff, ite_none, ne_eq] at hn); (try simp only [push_cast, reduceIte, nA, nB, nC, reduceCtorEq, nD, nE, nF, nG, iA, iB, iC, iD, *]))
    | (intro hc)
    | fail)
    refine does_appself rfl rfl rfl hn tE23 tS34 (by omega) (by omega) (by omega) ?_
    have e1 : (rows.drop j).take (rows.length - j) = rows.drop j := List.take_of_length_le (by simp)
    rw [e1]
    have hRl : (rows.take i ++ rows.drop j).length = i + (rows.length - j) := by simp; omega
    generalize hL : i + (rows.length - j) = L at *
    generalize rows.take i ++ rows.drop j = R at *
    have hL1 : (L : Int) ≤ rows.length := by omega
    have hL2 : (L : Int) ≤ cap := by omega
    have hH := upd_same H n (.r 34 4 cap R)
    have hE24 := tE23
    have hZ33 := tZ34
    (try simp only [push_cast, reduceIte, nA, nB, nC, reduceCtorEq, nD, nE, nF, nG, iA, iB, iC, iD, *])
    repeat' (first
    | refine AW_seq_kn fun K hK => ?_
    | refine AW_block ?_
    | (refine does_clear rfl rfl hH hE24 hZ33 rfl (by decide) (by omega) (by omega) ?_; (try simp only [push_cast, reduceIte, nA, nB, nC, reduceCtorEq, nD, nE, nF, nG, iA, iB, iC, iD, *]))
    | ((first
      | refine AW_region_draw (id := 5) E1 (fun f => [].contains f) dLI0 dAI0 mixed (by kernel_rfl) ?_
      | refine AW_region E1 ?_ | refine AW_ret ?_ | refine AW_exit ?_ | refine AW_skip ?_ | unfold retQ); try simp only [push_cast, reduceIte, nA, nB, nC, reduceCtorEq, nD, nE, nF, nG, iA, iB, iC, iD, *])
    | (apply AW_cond; (case hc => (simp only [push_cast, reduceIte, nA, nB, nC, reduceCtorEq, nD, nE, nF, nG, iA, iB, iC, iD]; rfl)); all_goals (intro hc; first | (exfalso; simp only [push_cast, reduceIte, nA, nB, nC, reduceCtorEq, nD, nE, nF, nG, iA, iB, iC, iD, *] at hc; done) | (exact absurd hc (by decide)) | (with_reducible (have hcc : true = true := hc); clear hcc hc) | (with_reducible (have hcc : false = false := hc); clear hcc hc) | ((try simp only [Bool.not_true, Bool.not_false] at hc); (first | (with_reducible (have hcc : true = true := hc); clear hcc hc) | (with_reducible (have hcc : false = false := hc); clear hcc hc) | (have hp := hc; (try simp only [decide_eq_true_eq, decide_eq_false_iff_not, bA, bB, bC, bD, bE, bF, bG, bH] at hp))))))
    | (refine Kn.go hK ?_; clear hK K)
    | refine Kn.go (by assumption) ?_
    | (intro n hn; (try simp only [upd_none2, join_none_iff, ite_none, ne_eq] at hn); (try simp only [push_cast, reduceIte, nA, nB, nC, reduceCtorEq, nD, nE, nF, nG, iA, iB, iC, iD, *]))
    | (intro hc)
    | fail)
    exact ⟨_, _, Weak.refl _ _, by first | rfl | rw [hRl], rfl⟩
theorem pdel_o {x : AV} {rows : List (List AV)} {i j : Nat} {H H0 : Heap} (hown : OwnL H x 34 4 rows H0) (hij : i ≤ j) (hj : j ≤ rows.length) :
    ACall Try.prog 61 [x, .c (.int .i64 i), .c (.int .i64 j)] H fun r H' => OwnL H' r 34 4 (rows.take i ++ rows.drop j) H0 := by
  rcases hown with ⟨⟨ad, rfl⟩, rfl, rfl⟩ | ⟨n, cap, rfl, hn, rfl⟩
  · obtain rfl : j = 0 := by simpa using hj
    obtain rfl : i = 0 := by omega
    have hE24 := tE23
    have hS33 := tS34
    refine ACall_of' Try.func61 rfl (Ent_of Try.func61 (by kernel_rfl) rfl) (by simp [Try.ntmps61]) ?_; simp only [Try.ntmps61, Try.results61]
    repeat' (first
    | refine AW_seq_kn fun K hK => ?_
    | refine AW_block ?_
    | (refine does_slice_c rfl rfl hE24 hS33 rfl rfl rfl (fun _ => rfl) ?_; (try simp only [push_cast, reduceIte, nA, nB, nC, reduceCtorEq, nD, nE, nF, nG, iA, iB, iC, iD, *]))
    | ((first
      | refine AW_region_draw (id := 5) E1 (fun f => [].contains f) dLI0 dAI0 mixed (by kernel_rfl) ?_
      | refine AW_region E1 ?_ | refine AW_ret ?_ | refine AW_exit ?_ | refine AW_skip ?_ | unfold retQ); try simp only [push_cast, reduceIte, nA, nB, nC, reduceCtorEq, nD, nE, nF, nG, iA, iB, iC, iD, *])
    | (apply AW_cond; (case hc => (simp only [push_cast, reduceIte, nA, nB, nC, reduceCtorEq, nD, nE, nF, nG, iA, iB, iC, iD]; rfl)); all_goals (intro hc; first | (exfalso; simp only [push_cast, reduceIte, nA, nB, nC, reduceCtorEq, nD, nE, nF, nG, iA, iB, iC, iD, *] at hc; done) | (exact absurd hc (by decide)) | (with_reducible (have hcc : true = true := hc); clear hcc hc) | (with_reducible (have hcc : false = false := hc); clear hcc hc) | ((try simp only [Bool.not_true, Bool.not_false] at hc); (first | (with_reducible (have hcc : true = true := hc); clear hcc hc) | (with_reducible (have hcc : false = false := hc); clear hcc hc) | (have hp := hc; (try simp only [decide_eq_true_eq, decide_eq_false_iff_not, bA, bB, bC, bD, bE, bF, bG, bH] at hp))))))
    | (refine Kn.go hK ?_; clear hK K)
    | refine Kn.go (by assumption) ?_
    | (intro n hn; (try simp only [upd_none2, join_none_iff, ite_none, ne_eq] at hn); (try simp only [push_cast, reduceIte, nA, nB, nC, reduceCtorEq, nD, nE, nF, nG, iA, iB, iC, iD, *]))
    | (intro hc)
    | fail)
    exact ⟨_, _, Weak.refl _ _, .inl ⟨⟨_, rfl⟩, rfl, rfl⟩⟩
  · refine (pdel H hn hij hj).mono ?_
    (rintro _ _ ⟨rfl, e2⟩; have e3 := e2.symm; clear e2; subst e3)
    refine .inr ⟨n, cap, rfl, upd_same _ _ _, ?_⟩
    funext q
    simp only [del, upd]
    by_cases e : q = n <;> simp [e]

def zPk : Pk := ⟨0, 0, 0, []⟩
def comeF (n : Nt) (num : Int) : Int := if fnd num n.ps = true then 0 else 4
def comeA (n : Nt) (num : Int) (stays : Bool) : Nt := if stays = true then n else ⟨n.sent, n.ps.take (atK num n.ps) ++ n.ps.drop (atK num n.ps + 1)⟩
def comeQ (n : Nt) (num : Int) : Pk := (n.ps[atK num n.ps]?).getD zPk
theorem fnd_get {num : Int} {l : List Pk} (h : fnd num l = true) : ∃ p, l[atK num l]? = some p ∧ p.num = num := by
  cases hx : l[atK num l]? with
  | none =>
    have h2 : fnd num l = false := bsF_none rfl hx
    rw [h2] at h; cases h
  | some p =>
    have h2 : fnd num l = decide (cmpI p.num num = 0) := bsF_some rfl hx
    rw [h2] at h; exact ⟨p, rfl, by simpa [cmpI_zero] using h⟩
abbrev bxP (p : Pk) : Blk := .r 34 4 1 [Pk.av p]
abbrev bxZ : Blk := .r 34 4 1 [[.c (.int .u64 0), .c (.int .i64 0), .c (.int .i64 0), .c (.slice none 0 0)]]
theorem come1_a (sent : Int) (l : List Pk) (hz : Sz ⟨sent, l⟩) (hok : nOk ⟨sent, l⟩ = true) (num : Int) (stays : Bool) (G : Heap) (q1 q2 q3 : Nat) (r1 : G q1 = some (.r 22 1 1 [[.c (.int .u64 num)]])) (r2 : G q2 = some bxZ) (r3 : G q3 = some (.r 4 1 1 [[.c (.bool stays)]]))
    (hq : ¬ q1 = q2) (hq' : ¬ q3 = q2) (x : AV) (B : Heap) (nb : Nat) (hnb : G nb = none) (hown : OwnL B x 34 4 (l.map Pk.av) (upd G nb (bxN sent x))) :
    ACall Try.prog 58 [.p nb 2 0 0, .p q1 1 0 0, .p q2 4 0 0, .p q3 1 0 0] B fun r H' => r = .c (.int .i64 (comeF ⟨sent, l⟩ num)) ∧ ((¬ comeF ⟨sent, l⟩ num = 0 → Heap.le G H') ∧ (comeF ⟨sent, l⟩ num = 0 → ∃ x', OwnL H' x' 34 4 ((comeA ⟨sent, l⟩ num stays).ps.map Pk.av) (upd (upd G q2 (bxP (comeQ ⟨sent, l⟩ num))) nb (bxN (comeA ⟨sent, l⟩ num stays).sent x')))) := by
  have hl : l.length ≤ 1000 := hz.l
  have hb : ∀ p ∈ l, p.bs.length ≤ 100000 := hz.b
  have hgo := nOk_go hok
  simp only at hgo
  have hGB : Heap.le G B := Heap.le_trans (le_upd_new hnb) hown.le
  have k0 := hown.get (upd_same _ _ _)
  have k1 := hGB _ _ r1
  have k2 := hGB _ _ r2
  have k3 := hGB _ _ r3
  have ne1 : ¬ q1 = nb := by rintro rfl; rw [r1] at hnb; cases hnb
  have ne2 : ¬ q2 = nb := by rintro rfl; rw [r2] at hnb; cases hnb
  have ne2' : ¬ nb = q2 := fun h => ne2 h.symm
  have ne3 : ¬ q3 = nb := by rintro rfl; rw [r3] at hnb; cases hnb
  have hat := at_a num l sent hl hgo B _ x nb _ rfl k0 hown
  have hcs := hown.cs
  have hlv := hown.len
  rw [List.length_map] at hlv
  cases hf : fnd num l
  · have hE : comeF ⟨sent, l⟩ num = 4 := by simp only [comeF, hf]; rfl
    rw [hE]
    clear r1 r2 r3 hE hok hz hb hgo
    rw [hf] at hat
    generalize atK num l = i at *
    replace hGB := Lib.hid hGB
    clear hown
    refine ACall_of' Try.func58 rfl (Ent_of Try.func58 (by kernel_rfl) rfl) (by simp [Try.ntmps58]) ?_; simp only [Try.ntmps58, Try.results58]
    repeat' (first
    | refine AW_seq_kn fun K hK => ?_
    | refine AW_block ?_
    | (refine does_call rfl rfl ?_; simp only [push_cast, reduceIte, nA, nB, nC, reduceCtorEq, nD, nE, nF, nG, iA, iB, iC, iD, *]; refine ACall.mono hat ?_; (rintro _ _ ⟨rfl, e2⟩; have e3 := e2.symm; clear e2; subst e3); (try simp only [push_cast, reduceIte, nA, nB, nC, reduceCtorEq, nD, nE, nF, nG, iA, iB, iC, iD, *]))
    | ((first
      | refine AW_region E1 ?_ | refine AW_ret ?_ | refine AW_exit ?_ | refine AW_skip ?_ | unfold retQ); try simp only [push_cast, reduceIte, nA, nB, nC, reduceCtorEq, nD, nE, nF, nG, iA, iB, iC, iD, *])
    | (apply AW_cond; (case hc => (simp only [push_cast, reduceIte, nA, nB, nC, reduceCtorEq, nD, nE, nF, nG, iA, iB, iC, iD]; rfl)); all_goals (intro hc; first | (exfalso; simp only [push_cast, reduceIte, nA, nB, nC, reduceCtorEq, nD, nE, nF, nG, iA, iB, iC, iD, *] at hc; done) | (exact absurd hc (by decide)) | (with_reducible (have hcc : true = true := hc); clear hcc hc) | (with_reducible (have hcc : false = false := hc); clear hcc hc) | ((try simp only [Bool.not_true, Bool.not_false] at hc); (first | (with_reducible (have hcc : true = true := hc); clear hcc hc) | (with_reducible (have hcc : false = false := hc); clear hcc hc) | (have hp := hc; (try simp only [decide_eq_true_eq, decide_eq_false_iff_not, bA, bB, bC, bD, bE, bF, bG, bH] at hp))))))
    | (refine Kn.go hK ?_; clear hK K)
    | refine Kn.go (by assumption) ?_
    | (intro n hn; (try simp only [upd_none2, join_none_iff, ite_none, ne_eq] at hn); (try simp only [push_cast, reduceIte, nA, nB, nC, reduceCtorEq, nD, nE, nF, nG, iA, iB, iC, iD, *]))
    | (intro hc)
    | fail)
    exact ⟨_, _, Weak.refl _ _, rfl, unhid hGB⟩
  · have hE : comeF ⟨sent, l⟩ num = 0 := by simp only [comeF, hf]; rfl
    obtain ⟨p, hp, hpn⟩ := fnd_get hf
    have hQ : comeQ ⟨sent, l⟩ num = p := by simp only [comeQ, hp]; rfl
    have hA : comeA ⟨sent, l⟩ num stays = if stays = true then ⟨sent, l⟩ else ⟨sent, l.take (atK num l) ++ l.drop (atK num l + 1)⟩ := rfl
    rw [hE, hQ, hA]
    rw [hf] at hat
    clear hE hok hz hgo hQ hA hf hpn
    generalize atK num l = i at *
    have hil := (List.getElem?_eq_some_iff.1 hp).1
    have hilI : (i : Int) < l.length := by omega
    have hiw : IntKind.i64.wrap ((i : Int) + 1) = (i : Int) + 1 := wrap_i64 (by omega) (by omega)
    have htk : List.take 4 (Pk.av p) = Pk.av p := rfl
    have hpb := hb p (List.mem_of_getElem? hp)
    have hcz := bclone_p p.bs (by omega)
    rcases hown.split with ⟨ad, rfl, e0, e1⟩ | ⟨m, cap, rfl, e1, hm⟩
    · rw [List.map_eq_nil_iff.1 e0] at hil; simp at hil
    rw [List.length_map] at *
    have hmb : ¬ m = nb := by rintro rfl; rw [upd_same] at hm; cases hm
    have hbm : ¬ nb = m := fun h => hmb h.symm
    have km : B m = some (.r 34 4 cap (l.map Pk.av)) := by rw [e1]; exact upd_same _ _ _
    have hm2 : ¬ q2 = m := by rintro rfl; rw [upd_ne ne2, r2] at hm; cases hm
    have hm2' : ¬ m = q2 := fun h => hm2 h.symm
    have hG2 : upd G nb (bxN sent (.s m 4 0 l.length cap)) q2 = some bxZ := by rw [upd_ne ne2]; exact r2
    have hown2 := hown.turn hG2 (bxP p)
    rw [upd_comm ne2'] at hown2
    clear r1 r2 r3 e1 hm hown hG2 hb
    replace hown2 := Lib.hid hown2
    cases stays
    · refine ACall_of' Try.func58 rfl (Ent_of Try.func58 (by kernel_rfl) rfl) (by simp [Try.ntmps58]) ?_; simp only [Try.ntmps58, Try.results58]
      repeat' (first
    | refine AW_seq_kn fun K hK => ?_
    | refine AW_block ?_
    | (refine does_call rfl rfl ?_; simp only [push_cast, reduceIte, nA, nB, nC, reduceCtorEq, nD, nE, nF, nG, iA, iB, iC, iD, *]; refine ACall.mono hat ?_; (rintro _ _ ⟨rfl, e2⟩; have e3 := e2.symm; clear e2; subst e3); (try simp only [push_cast, reduceIte, nA, nB, nC, reduceCtorEq, nD, nE, nF, nG, iA, iB, iC, iD, *]))
    | ((first
      | refine AW_region E1 ?_ | refine AW_ret ?_ | refine AW_exit ?_ | refine AW_skip ?_ | unfold retQ); try simp only [push_cast, reduceIte, nA, nB, nC, reduceCtorEq, nD, nE, nF, nG, iA, iB, iC, iD, *])
    | (apply AW_cond; (case hc => (simp only [push_cast, reduceIte, nA, nB, nC, reduceCtorEq, nD, nE, nF, nG, iA, iB, iC, iD]; rfl)); all_goals (intro hc; first | (exfalso; simp only [push_cast, reduceIte, nA, nB, nC, reduceCtorEq, nD, nE, nF, nG, iA, iB, iC, iD, *] at hc; done) | (exact absurd hc (by decide)) | (with_reducible (have hcc : true = true := hc); clear hcc hc) | (with_reducible (have hcc : false = false := hc); clear hcc hc) | ((try simp only [Bool.not_true, Bool.not_false] at hc); (first | (with_reducible (have hcc : true = true := hc); clear hcc hc) | (with_reducible (have hcc : false = false := hc); clear hcc hc) | (have hp := hc; (try simp only [decide_eq_true_eq, decide_eq_false_iff_not, bA, bB, bC, bD, bE, bF, bG, bH] at hp))))))
    | (refine Kn.go hK ?_; clear hK K)
    | refine Kn.go (by assumption) ?_
    | (intro n hn; (try simp only [upd_none2, join_none_iff, ite_none, ne_eq] at hn); (try simp only [push_cast, reduceIte, nA, nB, nC, reduceCtorEq, nD, nE, nF, nG, iA, iB, iC, iD, *]))
    | (intro hc)
    | fail)
      refine does_call rfl rfl ?_
      simp only [push_cast, reduceIte, nA, nB, nC, reduceCtorEq, nD, nE, nF, nG, iA, iB, iC, iD, *]
      have hd := pdel_o (i := i) (j := i + 1) (unhid hown2) (by omega) (by simp; omega)
      refine ACall.mono hd ?_
      intro x' H' hown3
      clear hown2 hd hat hcz
      rw [show (l.map Pk.av).take i ++ (l.map Pk.av).drop (i + 1) = (l.take i ++ l.drop (i + 1)).map Pk.av by simp] at hown3
      have hcs' := hown3.cs
      have k0' := hown3.get (upd_same _ _ _)
      have hown4 := hown3.turn (upd_same _ _ _) (bxN sent x')
      rw [upd_upd] at hown4
      clear hown3 k0 km k3
      replace hown4 := Lib.hid hown4
      (try simp only [push_cast, reduceIte, nA, nB, nC, reduceCtorEq, nD, nE, nF, nG, iA, iB, iC, iD, *])
      repeat' (first
    | refine AW_seq_kn fun K hK => ?_
    | refine AW_block ?_
    | ((first
      | refine AW_region E1 ?_ | refine AW_ret ?_ | refine AW_exit ?_ | refine AW_skip ?_ | unfold retQ); try simp only [push_cast, reduceIte, nA, nB, nC, reduceCtorEq, nD, nE, nF, nG, iA, iB, iC, iD, *])
    | (apply AW_cond; (case hc => (simp only [push_cast, reduceIte, nA, nB, nC, reduceCtorEq, nD, nE, nF, nG, iA, iB, iC, iD]; rfl)); all_goals (intro hc; first | (exfalso; simp only [push_cast, reduceIte, nA, nB, nC, reduceCtorEq, nD, nE, nF, nG, iA, iB, iC, iD, *] at hc; done) | (exact absurd hc (by decide)) | (with_reducible (have hcc : true = true := hc); clear hcc hc) | (with_reducible (have hcc : false = false := hc); clear hcc hc) | ((try simp only [Bool.not_true, Bool.not_false] at hc); (first | (with_reducible (have hcc : true = true := hc); clear hcc hc) | (with_reducible (have hcc : false = false := hc); clear hcc hc) | (have hp := hc; (try simp only [decide_eq_true_eq, decide_eq_false_iff_not, bA, bB, bC, bD, bE, bF, bG, bH] at hp))))))
    | (refine Kn.go hK ?_; clear hK K)
    | refine Kn.go (by assumption) ?_
    | (intro n hn; (try simp only [upd_none2, join_none_iff, ite_none, ne_eq] at hn); (try simp only [push_cast, reduceIte, nA, nB, nC, reduceCtorEq, nD, nE, nF, nG, iA, iB, iC, iD, *]))
    | (intro hc)
    | fail)
      exact ⟨_, _, Weak.refl _ _, rfl, x', unhid hown4⟩
    · refine ACall_of' Try.func58 rfl (Ent_of Try.func58 (by kernel_rfl) rfl) (by simp [Try.ntmps58]) ?_; simp only [Try.ntmps58, Try.results58]
      repeat' (first
    | refine AW_seq_kn fun K hK => ?_
    | refine AW_block ?_
    | (refine does_call rfl rfl ?_; simp only [push_cast, reduceIte, nA, nB, nC, reduceCtorEq, nD, nE, nF, nG, iA, iB, iC, iD, *]; refine ACall.mono hat ?_; (rintro _ _ ⟨rfl, e2⟩; have e3 := e2.symm; clear e2; subst e3); (try simp only [push_cast, reduceIte, nA, nB, nC, reduceCtorEq, nD, nE, nF, nG, iA, iB, iC, iD, *]))
    | (refine does_call rfl rfl ?_; simp only [push_cast, reduceIte, nA, nB, nC, reduceCtorEq, nD, nE, nF, nG, iA, iB, iC, iD, *]; refine ACall.mono (hcz _) ?_; (rintro _ _ ⟨rfl, e2⟩; have e3 := e2.symm; clear e2; subst e3); (try simp only [push_cast, reduceIte, nA, nB, nC, reduceCtorEq, nD, nE, nF, nG, iA, iB, iC, iD, *]))
    | ((first
      | refine AW_region E1 ?_ | refine AW_ret ?_ | refine AW_exit ?_ | refine AW_skip ?_ | unfold retQ); try simp only [push_cast, reduceIte, nA, nB, nC, reduceCtorEq, nD, nE, nF, nG, iA, iB, iC, iD, *])
    | (apply AW_cond; (case hc => (simp only [push_cast, reduceIte, nA, nB, nC, reduceCtorEq, nD, nE, nF, nG, iA, iB, iC, iD]; rfl)); all_goals (intro hc; first | (exfalso; simp only [push_cast, reduceIte, nA, nB, nC, reduceCtorEq, nD, nE, nF, nG, iA, iB, iC, iD, *] at hc; done) | (exact absurd hc (by decide)) | (with_reducible (have hcc : true = true := hc); clear hcc hc) | (with_reducible (have hcc : false = false := hc); clear hcc hc) | ((try simp only [Bool.not_true, Bool.not_false] at hc); (first | (with_reducible (have hcc : true = true := hc); clear hcc hc) | (with_reducible (have hcc : false = false := hc); clear hcc hc) | (have hp := hc; (try simp only [decide_eq_true_eq, decide_eq_false_iff_not, bA, bB, bC, bD, bE, bF, bG, bH] at hp))))))
    | (refine Kn.go hK ?_; clear hK K)
    | refine Kn.go (by assumption) ?_
    | (intro n hn; (try simp only [upd_none2, join_none_iff, ite_none, ne_eq] at hn); (try simp only [push_cast, reduceIte, nA, nB, nC, reduceCtorEq, nD, nE, nF, nG, iA, iB, iC, iD, *]))
    | (intro hc)
    | fail)
      exact ⟨_, _, Weak.refl _ _, rfl, _, unhid hown2⟩
def comeE (n : Nt) (num : Int) : Int := if nOk n = true then comeF n num else 380
def comeS (n : Nt) (num : Int) (stays : Bool) : Nt := if comeE n num = 0 then comeA n num stays else zNt
def comeP (n : Nt) (num : Int) : Pk := if comeE n num = 0 then comeQ n num else zPk
theorem come_p (n : Nt) (hz : Sz n) (num : Int) (stays : Bool) : Pure Try.prog 17 [.g (Nt.av n), .c (.int .u64 num), .c (.bool stays)] (.t [.g (Nt.av (comeS n num stays)), .g (Pk.av (comeP n num)), .c (.int .i64 (comeE n num))]) := by
  intro H
  have hE : comeE n num = if nOk n = true then comeF n num else 380 := rfl
  obtain ⟨sent, l⟩ := n
  cases hok : nOk ⟨sent, l⟩
  · have h2 : comeE ⟨sent, l⟩ num = 380 := by rw [hE, hok]; rfl
    have hS : comeS ⟨sent, l⟩ num stays = zNt := by unfold comeS; rw [h2]; rfl
    have hP : comeP ⟨sent, l⟩ num = zPk := by unfold comeP; rw [h2]; rfl
    rw [hS, h2, hP]
    have hw := with_no ⟨sent, l⟩ hz hok
    simp only [Nt.av, zNt, List.map_nil, Pk.av, zPk] at hw ⊢
    clear hE hS h2 hok hP
    refine ACall_of' Try.func17 rfl (Ent_of Try.func17 (by kernel_rfl) rfl) (by simp [Try.ntmps17]) ?_; simp only [Try.ntmps17, Try.results17]
    repeat' (first
    | refine AW_seq_kn fun K hK => ?_
    | refine AW_block ?_
    | (refine does_call rfl rfl ?_; simp only [push_cast, reduceIte, nA, nB, nC, reduceCtorEq, nD, nE, nF, nG, iA, iB, iC, iD, *]; refine ACall.mono (hw _ _ _) ?_; (rintro _ _ ⟨rfl, e2⟩; have e3 := e2.symm; clear e2; subst e3); (try simp only [push_cast, reduceIte, nA, nB, nC, reduceCtorEq, nD, nE, nF, nG, iA, iB, iC, iD, *]))
    | ((first
      | refine AW_region_draw (id := 3) E1 (fun f => [].contains f) dLI1 dAI1 mixed (by kernel_rfl) ?_
      | refine AW_region E1 ?_ | refine AW_ret ?_ | refine AW_exit ?_ | refine AW_skip ?_ | unfold retQ); try simp only [push_cast, reduceIte, nA, nB, nC, reduceCtorEq, nD, nE, nF, nG, iA, iB, iC, iD, *])
    | (apply AW_cond; (case hc => (simp only [push_cast, reduceIte, nA, nB, nC, reduceCtorEq, nD, nE, nF, nG, iA, iB, iC, iD]; rfl)); all_goals (intro hc; first | (exfalso; simp only [push_cast, reduceIte, nA, nB, nC, reduceCtorEq, nD, nE, nF, nG, iA, iB, iC, iD, *] at hc; done) | (exact absurd hc (by decide)) | (with_reducible (have hcc : true = true := hc); clear hcc hc) | (with_reducible (have hcc : false = false := hc); clear hcc hc) | ((try simp only [Bool.not_true, Bool.not_false] at hc); (first | (with_reducible (have hcc : true = true := hc); clear hcc hc) | (with_reducible (have hcc : false = false := hc); clear hcc hc) | (have hp := hc; (try simp only [decide_eq_true_eq, decide_eq_false_iff_not, bA, bB, bC, bD, bE, bF, bG, bH] at hp))))))
    | (refine Kn.go hK ?_; clear hK K)
    | refine Kn.go (by assumption) ?_
    | (intro n hn; (try simp only [upd_none2, join_none_iff, ite_none, ne_eq] at hn); (try simp only [push_cast, reduceIte, nA, nB, nC, reduceCtorEq, nD, nE, nF, nG, iA, iB, iC, iD, *]))
    | (intro hc)
    | fail)
    refine ⟨.t [.g [.c (.int .u64 0), .l 4 []], .g [.c (.int .u64 0), .c (.int .i64 0), .c (.int .i64 0), .l 1 []], .c (.int .i64 380)], H, Weak.imp ?_ (by (simp only [push_cast, reduceIte, nA, nB, nC, reduceCtorEq, nD, nE, nF, nG, iA, iB, iC, iD, *])), rfl, rfl⟩
    (intros; repeat (first | assumption | exact Imp.refl (Mem.le.refl _) _ | exact Imp.refl (by assumption) _ | exact Imp.nil_l _ | refine Imp.t ?_ | refine Imp.g ?_ | exact Imps.nil | refine Imps.cons ?_ (by intro hh; first | rfl | (cases hh; done)) ?_))
  · have h2 : comeE ⟨sent, l⟩ num = comeF ⟨sent, l⟩ num := by rw [hE, hok]; rfl
    have hS : comeS ⟨sent, l⟩ num stays = if comeF ⟨sent, l⟩ num = 0 then comeA ⟨sent, l⟩ num stays else zNt := by unfold comeS; rw [h2]
    have hP : comeP ⟨sent, l⟩ num = if comeF ⟨sent, l⟩ num = 0 then comeQ ⟨sent, l⟩ num else zPk := by unfold comeP; rw [h2]
    have hw := with_a sent l hz hok 58
    have h1 := come1_a sent l hz hok num stays
    rw [h2, hS, hP]
    generalize comeF ⟨sent, l⟩ num = E at *
    generalize comeA ⟨sent, l⟩ num stays = A at *
    generalize comeQ ⟨sent, l⟩ num = Q at *
    clear hE h2 hS hok hP
    replace hw := Lib.hid hw
    replace h1 := Lib.hid h1
    refine ACall_of' Try.func17 rfl (Ent_of Try.func17 (by kernel_rfl) rfl) (by simp [Try.ntmps17]) ?_; simp only [Try.ntmps17, Try.results17]
    repeat' (first
    | refine AW_seq_kn fun K hK => ?_
    | refine AW_block ?_
    | ((first
      | refine AW_region_draw (id := 3) E1 (fun f => [].contains f) dLI1 dAI1 mixed (by kernel_rfl) ?_
      | refine AW_region E1 ?_ | refine AW_ret ?_ | refine AW_exit ?_ | refine AW_skip ?_ | unfold retQ); try simp only [push_cast, reduceIte, nA, nB, nC, reduceCtorEq, nD, nE, nF, nG, iA, iB, iC, iD, *])
    | (apply AW_cond; (case hc => (simp only [push_cast, reduceIte, nA, nB, nC, reduceCtorEq, nD, nE, nF, nG, iA, iB, iC, iD]; rfl)); all_goals (intro hc; first | (exfalso; simp only [push_cast, reduceIte, nA, nB, nC, reduceCtorEq, nD, nE, nF, nG, iA, iB, iC, iD, *] at hc; done) | (exact absurd hc (by decide)) | (with_reducible (have hcc : true = true := hc); clear hcc hc) | (with_reducible (have hcc : false = false := hc); clear hcc hc) | ((try simp only [Bool.not_true, Bool.not_false] at hc); (first | (with_reducible (have hcc : true = true := hc); clear hcc hc) | (with_reducible (have hcc : false = false := hc); clear hcc hc) | (have hp := hc; (try simp only [decide_eq_true_eq, decide_eq_false_iff_not, bA, bB, bC, bD, bE, bF, bG, bH] at hp))))))
    | (refine Kn.go hK ?_; clear hK K)
    | refine Kn.go (by assumption) ?_
    | (intro n hn; (try simp only [upd_none2, join_none_iff, ite_none, ne_eq] at hn); (try simp only [push_cast, reduceIte, nA, nB, nC, reduceCtorEq, nD, nE, nF, nG, iA, iB, iC, iD, *]))
    | (intro hc)
    | fail)
    rename_i m3 h3 m4 h4 m5 h5 m6 h6 m7 h7
    generalize n = m9 at *
    obtain ⟨Hs, hHs⟩ : ∃ Hs : Heap, Hs = upd (upd (upd (upd (upd (upd H m3 (.r 25 2 1 [[.c (.int .u64 sent), .l 4 (l.map Pk.av)]])) m4 (.r 22 1 1 [[.c (.int .u64 num)]])) m5 (.r 4 1 1 [[.c (.bool stays)]])) m6 (.r 25 2 1 [[.c (.int .u64 0), .c (.slice none 0 0)]])) m7 bxZ) m9 bxZ := ⟨_, rfl⟩
    have g4 : Hs m4 = some (.r 22 1 1 [[.c (.int .u64 num)]]) := by rw [hHs]; simp only [push_cast, reduceIte, nA, nB, nC, reduceCtorEq, nD, nE, nF, nG, iA, iB, iC, iD, *]
    have g5 : Hs m5 = some (.r 4 1 1 [[.c (.bool stays)]]) := by rw [hHs]; simp only [push_cast, reduceIte, nA, nB, nC, reduceCtorEq, nD, nE, nF, nG, iA, iB, iC, iD, *]
    have g6 : Hs m6 = some (.r 25 2 1 [[.c (.int .u64 0), .c (.slice none 0 0)]]) := by rw [hHs]; simp only [push_cast, reduceIte, nA, nB, nC, reduceCtorEq, nD, nE, nF, nG, iA, iB, iC, iD, *]
    have g7 : Hs m7 = some bxZ := by rw [hHs]; simp only [push_cast, reduceIte, nA, nB, nC, reduceCtorEq, nD, nE, nF, nG, iA, iB, iC, iD, *]
    have g9 : Hs m9 = some bxZ := by rw [hHs]; exact upd_same _ _ _
    have n9 : (¬ m9 = m7 ∧ ¬ m7 = m9) ∧ (¬ m9 = m6 ∧ ¬ m6 = m9) ∧ (¬ m7 = m6 ∧ ¬ m6 = m7) ∧ ¬ m4 = m9 ∧ ¬ m5 = m9 := ⟨hn.1, hn.2.1, h7.1, hn.2.2.2.1.2, hn.2.2.1.2⟩
    have hm6 : H m6 = none := h6.2.2.2
    have hm7 : H m7 = none := h7.2.2.2.2
    have hm9 : H m9 = none := hn.2.2.2.2.2
    have hle : Heap.le H Hs := by rw [hHs]; (repeat' (first | exact Heap.le_refl _ | refine hle_upd2 ?_ _ _ | (refine Heap.le_new ?_ ?_; rotate_left 1; focus (first | assumption | (simp only [upd_none2, upd_get, ne_eq, push_cast, reduceIte, nA, nB, nC, reduceCtorEq, nD, nE, nF, nG, iA, iB, iC, iD, *]; done) | (simp [upd_get, *]; done)))))
    rw [← hHs]
    clear hHs
    refine does_call rfl rfl ?_
    simp only [push_cast, reduceIte, nA, nB, nC, reduceCtorEq, nD, nE, nF, nG, iA, iB, iC, iD, *]
    refine ACall.mono ((unhid hw) [.p m4 1 0 0, .p m9 4 0 0, .p m5 1 0 0] Hs E A (fun G => upd G m9 (bxP Q)) (Turns.upd g9 _) (fun he G x B nb hG hnb hown => (unhid h1 G m4 m9 m5 (hG _ _ g4) (hG _ _ g9) (hG _ _ g5) n9.2.2.2.1 n9.2.2.2.2 x B nb hnb hown).mono fun r H' h => ⟨h.1, h.2.1 he⟩) (fun he G x B nb hG hnb hown => (unhid h1 G m4 m9 m5 (hG _ _ g4) (hG _ _ g9) (hG _ _ g5) n9.2.2.2.1 n9.2.2.2.2 x B nb hnb hown).mono fun r H' h => ⟨by rw [h.1, he], h.2.2 he⟩)) ?_
    rintro _ _ ⟨rfl, e2⟩
    obtain ⟨⟨n1, n1'⟩, ⟨n2, n2'⟩, ⟨n3, n3'⟩, -, -⟩ := n9
    clear hw h1 h3 h4 h5 h6 h7 hn
    have hfin : ∀ (B : Heap) (R : Nt) (P : Pk) (m : Nat) (z : AV), Hs m = none → (z = .c (.slice none 0 0) ∧ P = zPk ∨ z = .l 1 (P.bs.map by1)) → B = (fun q => if q = m7 then some (.r 34 4 1 [[.c (.int .u64 P.num), .c (.int .i64 P.fr), .c (.int .i64 P.to), z]]) else if q = m6 then some (.r 25 2 1 [Nt.av R]) else if q = m then some (.r 25 2 1 [Nt.av R]) else if q = m9 then some (.r 34 4 1 [[.c (.int .u64 P.num), .c (.int .i64 P.fr), .c (.int .i64 P.to), z]]) else Hs q) →
        ∃ r2 H2, Weak (.t [.g (Nt.av R), .g [.c (.int .u64 P.num), .c (.int .i64 P.fr), .c (.int .i64 P.to), z], .c (.int .i64 E)]) B r2 H2 ∧ r2 = .t [.g (Nt.av R), .g (Pk.av P), .c (.int .i64 E)] ∧ H2 = H := by
      rintro B R P m z hm hz rfl
      refine ⟨.t [.g (Nt.av R), .g (Pk.av P), .c (.int .i64 E)], H, Weak.imp ?_ ?_, rfl, rfl⟩
      · intro F
        refine Imp.t (Imps.cons (Imp.refl (Mem.le.refl F) _) id (Imps.cons (Imp.g (Imps.cons (Imp.refl (Mem.le.refl F) _) id (Imps.cons (Imp.refl (Mem.le.refl F) _) id (Imps.cons (Imp.refl (Mem.le.refl F) _) id (Imps.cons ?_ (fun _ => rfl) Imps.nil))))) id (Imps.cons (Imp.refl (Mem.le.refl F) _) id Imps.nil)))
        rcases hz with ⟨rfl, rfl⟩ | rfl
        · exact Imp.nil_l 1
        · exact Imp.refl (Mem.le.refl F) _
      · intro q b hq
        have c6 : ¬ q = m6 := by rintro rfl; rw [hm6] at hq; cases hq
        have c7 : ¬ q = m7 := by rintro rfl; rw [hm7] at hq; cases hq
        have c9 : ¬ q = m9 := by rintro rfl; rw [hm9] at hq; cases hq
        have cm : ¬ q = m := by rintro rfl; have := hle _ _ hq; rw [hm] at this; cases this
        simp only [c6, c7, c9, cm, if_false]
        exact hle _ _ hq
    have hne6 := ne_old g6
    have hne7 := ne_old g7
    have hne9 := ne_old g9
    replace hfin := Lib.hid hfin
    by_cases hE0 : E = 0
    · subst hE0
      simp only [if_true] at e2 ⊢
      obtain ⟨rs, rl⟩ := A
      subst e2
      (try simp only [push_cast, reduceIte, nA, nB, nC, reduceCtorEq, nD, nE, nF, nG, iA, iB, iC, iD, *])
      repeat' (first
    | refine AW_seq_kn fun K hK => ?_
    | refine AW_block ?_
    | ((first
      | refine AW_region_draw (id := 3) E1 (fun f => [].contains f) dLI1 dAI1 mixed (by kernel_rfl) ?_
      | refine AW_region E1 ?_ | refine AW_ret ?_ | refine AW_exit ?_ | refine AW_skip ?_ | unfold retQ); try simp only [push_cast, reduceIte, nA, nB, nC, reduceCtorEq, nD, nE, nF, nG, iA, iB, iC, iD, *])
    | (apply AW_cond; (case hc => (simp only [push_cast, reduceIte, nA, nB, nC, reduceCtorEq, nD, nE, nF, nG, iA, iB, iC, iD]; rfl)); all_goals (intro hc; first | (exfalso; simp only [push_cast, reduceIte, nA, nB, nC, reduceCtorEq, nD, nE, nF, nG, iA, iB, iC, iD, *] at hc; done) | (exact absurd hc (by decide)) | (with_reducible (have hcc : true = true := hc); clear hcc hc) | (with_reducible (have hcc : false = false := hc); clear hcc hc) | ((try simp only [Bool.not_true, Bool.not_false] at hc); (first | (with_reducible (have hcc : true = true := hc); clear hcc hc) | (with_reducible (have hcc : false = false := hc); clear hcc hc) | (have hp := hc; (try simp only [decide_eq_true_eq, decide_eq_false_iff_not, bA, bB, bC, bD, bE, bF, bG, bH] at hp))))))
    | (refine Kn.go hK ?_; clear hK K)
    | refine Kn.go (by assumption) ?_
    | (intro n hn; (try simp only [upd_none2, join_none_iff, ite_none, ne_eq] at hn); (try simp only [push_cast, reduceIte, nA, nB, nC, reduceCtorEq, nD, nE, nF, nG, iA, iB, iC, iD, *]))
    | (intro hc)
    | fail)
      refine unhid hfin _ ⟨rs, rl⟩ Q n _ hn.2 (.inr rfl) ?_
      funext q
      simp only [upd_get, Nt.av, Pk.av]
      (repeat' split) <;> first | rfl | (exfalso; simp_all; done)
    · simp only [hE0, if_false] at e2 ⊢
      subst e2
      (try simp only [push_cast, reduceIte, nA, nB, nC, reduceCtorEq, nD, nE, nF, nG, iA, iB, iC, iD, *])
      repeat' (first
    | refine AW_seq_kn fun K hK => ?_
    | refine AW_block ?_
    | ((first
      | refine AW_region_draw (id := 3) E1 (fun f => [].contains f) dLI1 dAI1 mixed (by kernel_rfl) ?_
      | refine AW_region E1 ?_ | refine AW_ret ?_ | refine AW_exit ?_ | refine AW_skip ?_ | unfold retQ); try simp only [push_cast, reduceIte, nA, nB, nC, reduceCtorEq, nD, nE, nF, nG, iA, iB, iC, iD, *])
    | (apply AW_cond; (case hc => (simp only [push_cast, reduceIte, nA, nB, nC, reduceCtorEq, nD, nE, nF, nG, iA, iB, iC, iD]; rfl)); all_goals (intro hc; first | (exfalso; simp only [push_cast, reduceIte, nA, nB, nC, reduceCtorEq, nD, nE, nF, nG, iA, iB, iC, iD, *] at hc; done) | (exact absurd hc (by decide)) | (with_reducible (have hcc : true = true := hc); clear hcc hc) | (with_reducible (have hcc : false = false := hc); clear hcc hc) | ((try simp only [Bool.not_true, Bool.not_false] at hc); (first | (with_reducible (have hcc : true = true := hc); clear hcc hc) | (with_reducible (have hcc : false = false := hc); clear hcc hc) | (have hp := hc; (try simp only [decide_eq_true_eq, decide_eq_false_iff_not, bA, bB, bC, bD, bE, bF, bG, bH] at hp))))))
    | (refine Kn.go hK ?_; clear hK K)
    | refine Kn.go (by assumption) ?_
    | (intro n hn; (try simp only [upd_none2, join_none_iff, ite_none, ne_eq] at hn); (try simp only [push_cast, reduceIte, nA, nB, nC, reduceCtorEq, nD, nE, nF, nG, iA, iB, iC, iD, *]))
    | (intro hc)
    | fail)
      refine unhid hfin _ zNt zPk n _ (by assumption) (.inl ⟨rfl, rfl⟩) ?_
      funext q
      simp only [upd_get, Nt.av, Pk.av, zNt, zPk]
      (repeat' split) <;> first | rfl | (exfalso; simp_all; done) | (simp_all; done)
end Go.Proofs.Ytiepahhneagjhaa
