/- Walks: a cell of a key is laid. -/
import Derived.Test.YtmkncbddjnaklaaTC
import Derived.Test.YtmkncbddjnaklaaIN
namespace Go.Proofs.Ytmkncbddjnaklaa
open Go.RowKit
open Nat renaming reduceEqDiff → nA, reduceLT → nB, reduceLeDiff → nC, reduceAdd → nD, reduceMul → nE, reduceSub → nF, reduceBEq → nG
open Int renaming reduceToNat → iA, reduceLT → iB, reduceLE → iC, reduceEq → iD
open Bool renaming and_eq_true → bA, or_eq_true → bB, or_eq_false_iff → bC, and_eq_false_iff → bD, not_eq_true' → bE, not_eq_false' → bF, not_true → bG, not_false → bH
set_option linter.all false
set_option maxHeartbeats 4000000
attribute [local irreducible] AW Does ACall tE tS tB tZ
def dLTD0 : List En := [(0, false, []), (1, false, []), (2, false, []), (3, false, []), (4, false, []), (5, false, []), (6, false, []), (7, false, [])]
def dATD0 : List (List Nat) := [[], [], [0, 1], [], [], [3, 4], [0, 1, 2, 3, 4, 5], [0, 1, 2, 3, 4, 5, 6]]
attribute [push_cast] dLTD0
def dLTD1 : List En := [(0, false, []), (1, false, []), (2, false, []), (3, false, []), (4, false, []), (5, false, []), (6, false, []), (7, false, []), (8, false, []), (9, false, []), (10, false, [])]
def dATD1 : List (List Nat) := [[], [0], [0, 1], [0, 1, 2], [], [0, 1, 2, 3, 4], [0, 1, 2, 3, 4, 5], [0, 1, 2, 3, 4, 5, 6], [0, 1, 2, 3, 4, 5, 6], [0, 1, 2, 3, 4, 5, 6, 7], [0, 1, 2, 3, 4, 5, 6, 7, 8, 9]]
attribute [push_cast] dLTD1
def dLTD2 : List En := [(0, false, []), (1, false, []), (2, false, []), (3, false, []), (4, false, []), (5, false, []), (6, false, []), (7, false, []), (8, false, [])]
def dATD2 : List (List Nat) := [[], [0], [0, 1], [0, 1, 2], [], [], [0, 1, 2, 3, 4, 5], [0, 1, 2, 3, 4, 5, 6], [0, 1, 2, 3, 4, 5, 6, 7]]
attribute [push_cast] dLTD2
def dLTD3 : List En := [(0, false, []), (1, false, []), (2, false, []), (3, false, []), (4, false, []), (5, false, []), (6, false, []), (7, false, []), (8, false, []), (9, false, []), (10, false, []), (11, false, []), (12, false, []), (13, false, []), (14, false, []), (15, false, []), (16, false, [])]
def dATD3 : List (List Nat) := [[], [], [1], [1, 2], [1, 2, 3], [], [], [6], [], [8], [], [6, 7, 8, 9, 10], [6, 7, 8, 9, 10, 11], [1, 2, 3, 4, 5, 6, 7, 8, 9, 10, 11, 12], [0, 1, 2, 3, 4, 5, 6, 7, 8, 9, 10, 11, 12, 13], [0, 1, 2, 3, 4, 5, 6, 7, 8, 9, 10, 11, 12, 13, 14], [0, 1, 2, 3, 4, 5, 6, 7, 8, 9, 10, 11, 12, 13, 14, 15]]
attribute [push_cast] dLTD3

def Rise (l : List KC) : Prop := l.Pairwise fun x y => cmpR (keyS x) (keyS y) < 0
theorem tGo_rise : ∀ (l : List KC) (p : Option KC), tGo p l = true → Rise l ∧ (∀ y, p = some y → ∀ x ∈ l, cmpR (keyS y) (keyS x) < 0)
  | [], p, _ => ⟨List.Pairwise.nil, fun _ _ x hx => by cases hx⟩
  | x :: l, p, h => by
    simp only [tGo, Bool.and_eq_true] at h
    obtain ⟨⟨_, h2⟩, h3⟩ := h
    obtain ⟨i1, i2⟩ := tGo_rise l (some x) h3
    refine ⟨List.pairwise_cons.2 ⟨fun y hy => i2 x rfl y hy, i1⟩, fun y hy z hz => ?_⟩
    subst hy
    simp only [aft, decide_eq_true_eq] at h2
    rcases List.mem_cons.1 hz with rfl | hz
    · exact h2
    · have h4 := i2 x rfl z hz
      rw [cmpR_neg] at h2 h4 ⊢
      omega
theorem tOk_rise {l : List KC} (h : tOk l = true) : Rise l := (tGo_rise l none h).1
def atI (l : List KC) (r : Rec) : Nat := lbd (fun x => decide (cmpR (keyS x) r < 0)) l
def atB (l : List KC) (r : Rec) : Bool := bsF (fun x => cmpR (keyS x) r) l
theorem rise_mono {l : List KC} (h : Rise l) (r : Rec) : ∀ (i j : Nat) (x y : KC), i < j → l[i]? = some x → l[j]? = some y → cmpR (keyS y) r < 0 → cmpR (keyS x) r < 0 := fun i j x y hij hx hy hc => by
  obtain ⟨hi, rfl⟩ := List.getElem?_eq_some_iff.1 hx
  obtain ⟨hj, rfl⟩ := List.getElem?_eq_some_iff.1 hy
  have h1 := List.pairwise_iff_getElem.1 h i j hi hj hij
  rw [cmpR_neg] at h1 hc ⊢
  omega
theorem at_p (l : List KC) (hl : l.length ≤ 1000000) (hr : Rise l) (r : Rec) : Pure Try.prog 85 [.l 4 (l.map KC.av), .g (Rec.av r)] (.t [.c (.int .i64 (atI l r : Nat)), .c (.bool (atB l r))]) := by
  intro H
  have hb := fun H => kbs KC.av (fun _ => rfl) l hl (fun x => cmpR (keyS x) r) (rise_mono hr r) (Rec.av r) rfl 117 [] H (fun x _ G => at1_p x r G)
  have hi : lbd (fun x => decide (cmpR (keyS x) r < 0)) l = atI l r := rfl
  have hb2 : bsF (fun x => cmpR (keyS x) r) l = atB l r := rfl
  rw [hi, hb2] at hb
  generalize atI l r = i at *
  generalize atB l r = b at *
  obtain ⟨s, k, v⟩ := r
  simp only [Rec.av] at hb ⊢
  clear hi hb2 hr
  have hb3 : ∀ H, ACall Try.prog 116 [.l 4 (l.map KC.av), .g [.c (.int .i64 s), .c (.int .i64 k), .c (.int .i64 v)], .c (.func (.func 117) #[] #[])] H fun r H' => r = .t [.c (.int .i64 i), .c (.bool b)] ∧ H' = H := fun H =>
    ACall.argw (fun F => Imps.cons (Imp.refl (Mem.le.refl F) _) id (Imps.cons (Imp.refl (Mem.le.refl F) _) id (Imps.cons (Imp.fn _) (fun _ => rfl) Imps.nil))) (hb H)
  clear hb
  refine ACall_of' Try.func85 rfl (Ent_of Try.func85 (by kernel_rfl) rfl) (by simp [Try.ntmps85]) ?_; simp only [Try.ntmps85, Try.results85]
  repeat' (first
    | refine AW_seq_kn fun K hK => ?_
    | refine AW_block ?_
    | (refine does_call rfl rfl ?_; simp only [push_cast, seval, *]; refine ACall.monoP (hb3 _) ?_; (try simp only [push_cast, seval, *]))
    | ((first
      | refine AW_region E0 ?_ | refine AW_ret ?_ | refine AW_exit ?_ | refine AW_skip ?_ | unfold retQ); try simp only [push_cast, seval, *])
    | (apply AW_cond; (case hc => (simp only [push_cast, seval]; rfl)); all_goals (intro hc; first | (exfalso; simp only [push_cast, seval, *] at hc; done) | (exact absurd hc (by decide)) | ((try first | rw [Bool.not_true] at hc | rw [Bool.not_false] at hc); first | (with_reducible replace hc := tTT hc); clear hc | (with_reducible replace hc := tFF hc); clear hc | (have hp := hc; try simp only [decide_eq_true_eq, decide_eq_false_iff_not, bA, bB, bC, bD, bE, bF, bG, bH] at hp))))
    | (refine Kn.go hK ?_; clear hK K)
    | refine Kn.go (by assumption) ?_
    | (intro n hn; (try simp only [upd_none2, join_none_iff, ite_none, ne_eq] at hn); (try simp only [push_cast, seval, *]))
    | (intro hc)
    | fail)
  exact ⟨_, _, Weak.less (by (simp only [push_cast, seval, *])), rfl, rfl⟩
theorem atI_le (l : List KC) (r : Rec) : atI l r ≤ l.length := lbd_le _ l
theorem atB_some {l : List KC} {r : Rec} (h : atB l r = true) : ∃ x, l[atI l r]? = some x ∧ cmpR (keyS x) r = 0 := by
  unfold atB bsF at h
  unfold atI
  split at h
  · rename_i x hx; exact ⟨x, hx, by simpa using h⟩
  · cases h
def putC (x : KC) (c : CellD) : KC := ⟨x.s, x.k, c.count, c.sum⟩
def newC (r : Rec) (c : CellD) : KC := ⟨r.s, r.k, c.count, c.sum⟩
def setS (l : List KC) (r : Rec) (c : CellD) : List KC :=
  if atB l r = true then (if c = zeroC then l.take (atI l r) ++ l.drop (atI l r + 1) else l.modify (atI l r) (fun x => putC x c))
  else if c = zeroC then l else l.take (atI l r) ++ [newC r c] ++ l.drop (atI l r)
theorem kdel {rows : List (List AV)} {n cap i j : Nat} (H : Heap) (hn : H n = some (.r 80 4 cap rows)) (hij : i ≤ j) (hj : j ≤ rows.length) :
    ACall Try.prog 109 [.s n 4 0 rows.length cap, .c (.int .i64 i), .c (.int .i64 j)] H fun r H' => r = .s n 4 0 (rows.take i ++ rows.drop j).length cap ∧ H' = upd H n (.r 80 4 cap (rows.take i ++ rows.drop j)) := by
  refine ACall.blk (Ent_of Try.func109 (by kernel_rfl) rfl) hn fun hcap hmax _ _ => ?_
  have hcapI : (rows.length : Int) ≤ cap := by omega
  have hijI : (i : Int) ≤ j := by omega
  have hjI : (j : Int) ≤ rows.length := by omega
  have hiI : (i : Int) ≤ rows.length := by omega
  have hicI : (i : Int) ≤ cap := by omega
  have hjcI : (j : Int) ≤ cap := by omega
  by_cases e : i = j
  · subst e
    refine ACall_of' Try.func109 rfl (Ent_of Try.func109 (by kernel_rfl) rfl) (by simp [Try.ntmps109]) ?_; simp only [Try.ntmps109, Try.results109]
    repeat' (first
    | refine AW_seq_kn fun K hK => ?_
    | refine AW_block ?_
    | ((first
      | refine AW_region_draw (id := 5) E1 (fun f => [].contains f) dLTD0 dATD0 mixed (by kernel_rfl) ?_
      | refine AW_region E1 ?_ | refine AW_ret ?_ | refine AW_exit ?_ | refine AW_skip ?_ | unfold retQ); try simp only [push_cast, seval, *])
    | (apply AW_cond; (case hc => (simp only [push_cast, seval]; rfl)); all_goals (intro hc; first | (exfalso; simp only [push_cast, seval, *] at hc; done) | (exact absurd hc (by decide)) | ((try first | rw [Bool.not_true] at hc | rw [Bool.not_false] at hc); first | (with_reducible replace hc := tTT hc); clear hc | (with_reducible replace hc := tFF hc); clear hc | (have hp := hc; try simp only [decide_eq_true_eq, decide_eq_false_iff_not, bA, bB, bC, bD, bE, bF, bG, bH] at hp))))
    | (refine Kn.go hK ?_; clear hK K)
    | refine Kn.go (by assumption) ?_
    | (intro n hn; (try simp only [upd_none2, join_none_iff, ite_none, ne_eq] at hn); (try simp only [push_cast, seval, *]))
    | (intro hc)
    | fail)
    refine ⟨_, _, Weak.refl _ _, ?_, ?_⟩
    · rw [List.take_append_drop]
    · rw [List.take_append_drop, upd_self hn]
  · have heI : ¬ (i : Int) = j := by omega
    refine ACall_of' Try.func109 rfl (Ent_of Try.func109 (by kernel_rfl) rfl) (by simp [Try.ntmps109]) ?_; simp only [Try.ntmps109, Try.results109]
    repeat' (first
    | refine AW_seq_kn fun K hK => ?_
    | refine AW_block ?_
    | ((first
      | refine AW_region_draw (id := 5) E1 (fun f => [].contains f) dLTD0 dATD0 mixed (by kernel_rfl) ?_
      | refine AW_region E1 ?_ | refine AW_ret ?_ | refine AW_exit ?_ | refine AW_skip ?_ | unfold retQ); try simp only [push_cast, seval, *])
    | (apply AW_cond; (case hc => (simp only [push_cast, seval]; rfl)); all_goals (intro hc; first | (exfalso; simp only [push_cast, seval, *] at hc; done) | (exact absurd hc (by decide)) | ((try first | rw [Bool.not_true] at hc | rw [Bool.not_false] at hc); first | (with_reducible replace hc := tTT hc); clear hc | (with_reducible replace hc := tFF hc); clear hc | (have hp := hc; try simp only [decide_eq_true_eq, decide_eq_false_iff_not, bA, bB, bC, bD, bE, bF, bG, bH] at hp))))
    | (refine Kn.go hK ?_; clear hK K)
    | refine Kn.go (by assumption) ?_
    | (intro n hn; (try simp only [upd_none2, join_none_iff, ite_none, ne_eq] at hn); (try simp only [push_cast, seval, *]))
    | (intro hc)
    | fail)
    refine does_appself rfl rfl rfl hn tE47 tS80 (by omega) (by omega) (by omega) ?_
    have e1 : (rows.drop j).take (rows.length - j) = rows.drop j := List.take_of_length_le (by simp)
    rw [e1]
    have hRl : (rows.take i ++ rows.drop j).length = i + (rows.length - j) := by simp; omega
    generalize hL : i + (rows.length - j) = L at *
    generalize rows.take i ++ rows.drop j = R at *
    have hL1 : (L : Int) ≤ rows.length := by omega
    have hL2 : (L : Int) ≤ cap := by omega
    have hH := upd_same H n (.r 80 4 cap R)
    have hE24 := tE47
    have hZ33 := tZ80
    (try simp only [push_cast, seval, *])
    repeat' (first
    | refine AW_seq_kn fun K hK => ?_
    | refine AW_block ?_
    | (refine does_clear rfl rfl hH hE24 hZ33 rfl (by decide) (by omega) (by omega) ?_; (try simp only [push_cast, seval, *]))
    | ((first
      | refine AW_region_draw (id := 5) E1 (fun f => [].contains f) dLTD0 dATD0 mixed (by kernel_rfl) ?_
      | refine AW_region E1 ?_ | refine AW_ret ?_ | refine AW_exit ?_ | refine AW_skip ?_ | unfold retQ); try simp only [push_cast, seval, *])
    | (apply AW_cond; (case hc => (simp only [push_cast, seval]; rfl)); all_goals (intro hc; first | (exfalso; simp only [push_cast, seval, *] at hc; done) | (exact absurd hc (by decide)) | ((try first | rw [Bool.not_true] at hc | rw [Bool.not_false] at hc); first | (with_reducible replace hc := tTT hc); clear hc | (with_reducible replace hc := tFF hc); clear hc | (have hp := hc; try simp only [decide_eq_true_eq, decide_eq_false_iff_not, bA, bB, bC, bD, bE, bF, bG, bH] at hp))))
    | (refine Kn.go hK ?_; clear hK K)
    | refine Kn.go (by assumption) ?_
    | (intro n hn; (try simp only [upd_none2, join_none_iff, ite_none, ne_eq] at hn); (try simp only [push_cast, seval, *]))
    | (intro hc)
    | fail)
    exact ⟨_, _, Weak.refl _ _, by first | rfl | rw [hRl], rfl⟩
theorem kdel_o {x : AV} {rows : List (List AV)} {i j : Nat} {H H0 : Heap} (hown : OwnL H x 80 4 rows H0) (hij : i ≤ j) (hj : j ≤ rows.length) :
    ACall Try.prog 109 [x, .c (.int .i64 i), .c (.int .i64 j)] H fun r H' => OwnL H' r 80 4 (rows.take i ++ rows.drop j) H0 := by
  rcases hown with ⟨⟨ad, rfl⟩, rfl, rfl⟩ | ⟨n, cap, rfl, hn, rfl⟩
  · obtain rfl : j = 0 := by simpa using hj
    obtain rfl : i = 0 := by omega
    have hE24 := tE47
    have hS33 := tS80
    refine ACall_of' Try.func109 rfl (Ent_of Try.func109 (by kernel_rfl) rfl) (by simp [Try.ntmps109]) ?_; simp only [Try.ntmps109, Try.results109]
    repeat' (first
    | refine AW_seq_kn fun K hK => ?_
    | refine AW_block ?_
    | (refine does_slice_c rfl rfl hE24 hS33 rfl rfl rfl (fun _ => rfl) ?_; (try simp only [push_cast, seval, *]))
    | ((first
      | refine AW_region_draw (id := 5) E1 (fun f => [].contains f) dLTD0 dATD0 mixed (by kernel_rfl) ?_
      | refine AW_region E1 ?_ | refine AW_ret ?_ | refine AW_exit ?_ | refine AW_skip ?_ | unfold retQ); try simp only [push_cast, seval, *])
    | (apply AW_cond; (case hc => (simp only [push_cast, seval]; rfl)); all_goals (intro hc; first | (exfalso; simp only [push_cast, seval, *] at hc; done) | (exact absurd hc (by decide)) | ((try first | rw [Bool.not_true] at hc | rw [Bool.not_false] at hc); first | (with_reducible replace hc := tTT hc); clear hc | (with_reducible replace hc := tFF hc); clear hc | (have hp := hc; try simp only [decide_eq_true_eq, decide_eq_false_iff_not, bA, bB, bC, bD, bE, bF, bG, bH] at hp))))
    | (refine Kn.go hK ?_; clear hK K)
    | refine Kn.go (by assumption) ?_
    | (intro n hn; (try simp only [upd_none2, join_none_iff, ite_none, ne_eq] at hn); (try simp only [push_cast, seval, *]))
    | (intro hc)
    | fail)
    exact ⟨_, _, Weak.refl _ _, .inl ⟨⟨_, rfl⟩, rfl, rfl⟩⟩
  · refine (kdel H hn hij hj).mono ?_
    (rintro _ _ ⟨rfl, e2⟩; have e3 := e2.symm; clear e2; subst e3)
    refine .inr ⟨n, cap, rfl, upd_same _ _ _, ?_⟩
    funext q
    simp only [del, upd]
    by_cases e : q = n <;> simp [e]

abbrev bxT (x : AV) : Blk := .r 49 1 1 [[x]]
theorem modify_set {α : Type} {l : List α} {i : Nat} {y : α} (f : α → α) (hy : l[i]? = some y) : l.modify i f = l.set i (f y) := by
  apply List.ext_getElem?
  intro j
  rw [List.getElem?_modify, List.getElem?_set]
  by_cases e : i = j
  · subst e
    have := (List.getElem?_eq_some_iff.1 hy).1
    rw [hy]; simp [this]
  · simp [e]
theorem box_fin {G : Heap} {n1 n2 nb : Nat} {a b k1 k2 : Blk} (h1 : G n1 = none) (h2 : G n2 = none) : Heap.le (upd G nb b) (upd (upd (upd (upd G nb a) n1 k1) n2 k2) nb b) := fun q k hq => by
  by_cases e : q = nb
  · subst e; rw [upd_same] at hq ⊢; exact hq
  · rw [upd_ne e] at hq ⊢
    have c1 : q ≠ n1 := by rintro rfl; rw [h1] at hq; cases hq
    have c2 : q ≠ n2 := by rintro rfl; rw [h2] at hq; cases hq
    rw [upd_ne c2, upd_ne c1, upd_ne e]; exact hq
theorem set_o (l : List KC) (hl : l.length ≤ 100000) (hr : Rise l) (r : Rec) (c : CellD) (x : AV) (nb : Nat) (G B : Heap) (hG : G nb = none) (hown : OwnL B x 80 4 (l.map KC.av) (upd G nb (bxT x))) :
    ACall Try.prog 77 [.p nb 1 0 0, .g (Rec.av r), .g (CellD.av c)] B fun _ H' => ∃ x', OwnL H' x' 80 4 ((setS l r c).map KC.av) (upd G nb (bxT x')) := by
  have hat := at_p l (by omega) hr r
  have hil := atI_le l r
  have hsm := fun h => atB_some (l := l) (r := r) h
  have hS : setS l r c = if atB l r = true then (if c = zeroC then l.take (atI l r) ++ l.drop (atI l r + 1) else l.modify (atI l r) (fun x => putC x c)) else if c = zeroC then l else l.take (atI l r) ++ [newC r c] ++ l.drop (atI l r) := rfl
  have kx := hown.get (upd_same _ _ _)
  have hcs := hown.cs
  have hx1 := hown.one
  generalize atI l r = i at *
  generalize atB l r = b at *
  generalize setS l r c = S at *
  obtain ⟨s, k, v⟩ := r
  have hlt : ∀ M K0, OwnL M x 80 4 (l.map KC.av) K0 → ACall Try.prog 85 [x, .g (Rec.av ⟨s, k, v⟩)] M (fun r H' => r = .t [.c (.int .i64 i), .c (.bool b)] ∧ H' = M) := fun M K0 ho => ACall.lend (args' := [.l 4 (l.map KC.av), .g (Rec.av ⟨s, k, v⟩)]) (Flat.two _ _) (show Lent _ _ _ ∧ Lent _ _ _ ∧ True from ⟨ho.lent, Lent.refl _ _, trivial⟩) hat.cl
  obtain ⟨cn, cs⟩ := c
  simp only [Rec.av] at hlt
  simp only [Rec.av, CellD.av]
  clear hat hr
  have hwi : i < l.length → IntKind.i64.wrap ((i : Int) + 1) = ((i + 1 : Nat) : Int) := fun h => by rw [wrap_i64 (by omega) (by omega)]; omega
  have hz3 : ((cn = 0) = False ∧ (cs = 0) = False) ∨ ((cn = 0) = False ∧ (cs = 0) = True) ∨ ((cn = 0) = True ∧ (cs = 0) = False) ∨ ((cn = 0) = True ∧ (cs = 0) = True) := by
    simp only [eq_iff_iff, iff_true, iff_false]; omega
  have hzn : (cn = 0) = False ∨ (cs = 0) = False → ¬ (⟨cn, cs⟩ : CellD) = zeroC := fun h e => by
    have e1 := congrArg CellD.count e
    have e2 := congrArg CellD.sum e
    simp only [zeroC] at e1 e2
    rcases h with h | h
    · rw [e1] at h; simp at h
    · rw [e2] at h; simp at h
  have hzy : (cn = 0) = True → (cs = 0) = True → (⟨cn, cs⟩ : CellD) = zeroC := fun e1 e2 => by
    have e1 := of_eq_true e1
    have e2 := of_eq_true e2
    subst e1 e2; rfl
  replace hlt := Lib.hid hlt
  replace hown := Lib.hid hown
  replace hS := Lib.hid hS
  replace hsm := Lib.hid hsm
  replace hwi := Lib.hid hwi
  replace hzn := Lib.hid hzn
  replace hzy := Lib.hid hzy
  have hnbo := ne_old kx
  refine ACall_of' Try.func77 rfl (Ent_of Try.func77 (by kernel_rfl) rfl) (by simp [Try.ntmps77]) ?_; simp only [Try.ntmps77, Try.results77]
  repeat' (first
    | refine AW_seq_kn fun K hK => ?_
    | refine AW_block ?_
    | ((first
      | refine AW_region_draw (id := 1) E0 (fun f => [].contains f) dLTD1 dATD1 mixed (by kernel_rfl) ?_
      | refine AW_region_draw (id := 5) E0 (fun f => [].contains f) dLTD2 dATD2 mixed (by kernel_rfl) ?_
      | refine AW_region_draw (id := 7) E0 (fun f => [].contains f) dLTD3 dATD3 mixed (by kernel_rfl) ?_
      | refine AW_region E0 ?_ | refine AW_ret ?_ | refine AW_exit ?_ | refine AW_skip ?_ | unfold retQ); try simp only [push_cast, seval, *])
    | ((first | (apply AW_cond; (case hc => (simp only [push_cast, seval]; rfl))) | (apply ER_guard; (case hb => (simp only [push_cast, seval]; rfl)))); all_goals ((intro hc; first | (exfalso; simp only [push_cast, seval, *] at hc; done) | (exact absurd hc (by decide)) | ((try first | rw [Bool.not_true] at hc | rw [Bool.not_false] at hc); first | (with_reducible replace hc := tTT hc); clear hc | (with_reducible replace hc := tFF hc); clear hc | (have hp := hc; try simp only [decide_eq_true_eq, decide_eq_false_iff_not, bA, bB, bC, bD, bE, bF, bG, bH] at hp))) <;> try simp only [push_cast, seval, *]))
    | (refine Kn.go hK ?_; clear hK K)
    | refine Kn.go (by assumption) ?_
    | (intro n hn; (try simp only [upd_none2, join_none_iff, ite_none, ne_eq] at hn); (try simp only [push_cast, seval, *]))
    | (intro hc)
    | (apply ER_blk; (case hp => rfl); (case hb => (simp only [push_cast, seval]; rfl)); (case hd => (simp only [push_cast, seval]; done)); (case h => (intro hc; simp only [push_cast, seval, *]; rfl)); simp only [push_cast, seval, *])
    | fail)
  rename_i n1 h1
  have hG1 : G n1 = none := by
    have h := (unhid hown).none h1
    rw [upd_none] at h; exact h.2
  have hG2 : G n = none := by
    have h := (unhid hown).none hn.2
    rw [upd_none] at h; exact h.2
  have nb1 : ¬ nb = n1 := of_eq_false (hnbo n1 h1).1
  have nb2 : ¬ nb = n := of_eq_false (hnbo n hn.2).1
  have n12 : ¬ n1 = n := hn.1.2
  have o2 := ((unhid hown).new h1 (.r 54 3 1 [[.c (.int .i64 s), .c (.int .i64 k), .c (.int .i64 v)]])).new (m := n) (by simp only [upd_none2]; exact hn) (.r 26 2 1 [[.c (.int .i64 cn), .c (.int .i64 cs)]])
  refine does_call rfl rfl ?_
  simp only [push_cast, seval, *]
  refine ACall.mono (unhid hlt _ _ o2) ?_
  rintro _ _ ⟨rfl, e2⟩
  have e3 := e2.symm; clear e2; subst e3
  have hbox := fun a b => box_fin (G := G) (n1 := n1) (n2 := n) (nb := nb) (a := a) (b := b) (k1 := .r 54 3 1 [[.c (.int .i64 s), .c (.int .i64 k), .c (.int .i64 v)]]) (k2 := .r 26 2 1 [[.c (.int .i64 cn), .c (.int .i64 cs)]]) hG1 hG2
  obtain ⟨M, hM⟩ : ∃ M : Heap, M = upd (upd B n1 (.r 54 3 1 [[.c (.int .i64 s), .c (.int .i64 k), .c (.int .i64 v)]])) n (.r 26 2 1 [[.c (.int .i64 cn), .c (.int .i64 cs)]]) := ⟨_, rfl⟩
  obtain ⟨M0, hM0⟩ : ∃ M0 : Heap, M0 = upd (upd (upd G nb (bxT x)) n1 (.r 54 3 1 [[.c (.int .i64 s), .c (.int .i64 k), .c (.int .i64 v)]])) n (.r 26 2 1 [[.c (.int .i64 cn), .c (.int .i64 cs)]]) := ⟨_, rfl⟩
  have m0 : M0 nb = some (bxT x) := by rw [hM0, upd_ne nb2, upd_ne nb1]; exact upd_same _ _ _
  have m1 : M0 n1 = some (.r 54 3 1 [[.c (.int .i64 s), .c (.int .i64 k), .c (.int .i64 v)]]) := by rw [hM0, upd_ne n12]; exact upd_same _ _ _
  have m2 : M0 n = some (.r 26 2 1 [[.c (.int .i64 cn), .c (.int .i64 cs)]]) := by rw [hM0]; exact upd_same _ _ _
  have hfin : ∀ b, Heap.le (upd G nb b) (upd M0 nb b) := fun b => by rw [hM0]; exact hbox _ _
  rw [← hM0, ← hM] at o2
  rw [← hM]
  clear hM hM0 hbox hown h1 hn hnbo kx hlt hG1 hG2
  have k0 := o2.get m0
  have k1 := o2.get m1
  have k2 := o2.get m2
  have hn0 := ne_old k0
  have hn1 := ne_old k1
  have hn2 := ne_old k2
  replace hfin := Lib.hid hfin
  replace o2 := Lib.hid o2
  have hiI : (i : Int) ≤ l.length := by omega
  cases b
  · rcases hz3 with ⟨z1, z2⟩ | ⟨z1, z2⟩ | ⟨z1, z2⟩ | ⟨z1, z2⟩
    rotate_right
    · have hc := unhid hzy z1 z2
      have hS2 : S = l := by rw [unhid hS, if_neg (by simp), if_pos hc]
      subst hS2
      obtain ⟨H2, l1, l2⟩ := ((unhid o2).turn m0 (bxT x)).cut (unhid hfin (bxT x))
      rw [upd_self k0] at l1
      replace l1 := Lib.hid l1
      replace l2 := Lib.hid l2
      (try simp only [push_cast, seval, *])
      repeat' (first
    | refine AW_seq_kn fun K hK => ?_
    | refine AW_block ?_
    | ((first
      | refine AW_region_draw (id := 1) E0 (fun f => [].contains f) dLTD1 dATD1 mixed (by kernel_rfl) ?_
      | refine AW_region_draw (id := 5) E0 (fun f => [].contains f) dLTD2 dATD2 mixed (by kernel_rfl) ?_
      | refine AW_region_draw (id := 7) E0 (fun f => [].contains f) dLTD3 dATD3 mixed (by kernel_rfl) ?_
      | refine AW_region E0 ?_ | refine AW_ret ?_ | refine AW_exit ?_ | refine AW_skip ?_ | unfold retQ); try simp only [push_cast, seval, *])
    | ((first | (apply AW_cond; (case hc => (simp only [push_cast, seval]; rfl))) | (apply ER_guard; (case hb => (simp only [push_cast, seval]; rfl)))); all_goals ((intro hc; first | (exfalso; simp only [push_cast, seval, *] at hc; done) | (exact absurd hc (by decide)) | ((try first | rw [Bool.not_true] at hc | rw [Bool.not_false] at hc); first | (with_reducible replace hc := tTT hc); clear hc | (with_reducible replace hc := tFF hc); clear hc | (have hp := hc; try simp only [decide_eq_true_eq, decide_eq_false_iff_not, bA, bB, bC, bD, bE, bF, bG, bH] at hp))) <;> try simp only [push_cast, seval, *]))
    | (refine Kn.go hK ?_; clear hK K)
    | refine Kn.go (by assumption) ?_
    | (intro n hn; (try simp only [upd_none2, join_none_iff, ite_none, ne_eq] at hn); (try simp only [push_cast, seval, *]))
    | (intro hc)
    | (apply ER_blk; (case hp => rfl); (case hb => (simp only [push_cast, seval]; rfl)); (case hd => (simp only [push_cast, seval]; done)); (case h => (intro hc; simp only [push_cast, seval, *]; rfl)); simp only [push_cast, seval, *])
    | fail)
      exact ⟨_, H2, Weak.less (unhid l1), x, unhid l2⟩
    all_goals
      have hc := unhid hzn (by first | exact .inl z1 | exact .inr z2)
      have hS2 : S = l.take i ++ [newC ⟨s, k, v⟩ ⟨cn, cs⟩] ++ l.drop i := by rw [unhid hS, if_neg (by simp), if_neg hc]
      have hrows : (l.map KC.av).take i ++ [KC.av ⟨s, k, cn, cs⟩] ++ (l.map KC.av).drop i = S.map KC.av := by rw [hS2]; simp [newC]
      replace hrows := Lib.hid hrows
      clear hc hS2 hS
      (try simp only [push_cast, seval, *])
      repeat' (first
    | refine AW_seq_kn fun K hK => ?_
    | refine AW_block ?_
    | ((first
      | refine AW_region_draw (id := 1) E0 (fun f => [].contains f) dLTD1 dATD1 mixed (by kernel_rfl) ?_
      | refine AW_region_draw (id := 5) E0 (fun f => [].contains f) dLTD2 dATD2 mixed (by kernel_rfl) ?_
      | refine AW_region_draw (id := 7) E0 (fun f => [].contains f) dLTD3 dATD3 mixed (by kernel_rfl) ?_
      | refine AW_region E0 ?_ | refine AW_ret ?_ | refine AW_exit ?_ | refine AW_skip ?_ | unfold retQ); try simp only [push_cast, seval, *])
    | ((first | (apply AW_cond; (case hc => (simp only [push_cast, seval]; rfl))) | (apply ER_guard; (case hb => (simp only [push_cast, seval]; rfl)))); all_goals ((intro hc; first | (exfalso; simp only [push_cast, seval, *] at hc; done) | (exact absurd hc (by decide)) | ((try first | rw [Bool.not_true] at hc | rw [Bool.not_false] at hc); first | (with_reducible replace hc := tTT hc); clear hc | (with_reducible replace hc := tFF hc); clear hc | (have hp := hc; try simp only [decide_eq_true_eq, decide_eq_false_iff_not, bA, bB, bC, bD, bE, bF, bG, bH] at hp))) <;> try simp only [push_cast, seval, *]))
    | (refine Kn.go hK ?_; clear hK K)
    | refine Kn.go (by assumption) ?_
    | (intro n hn; (try simp only [upd_none2, join_none_iff, ite_none, ne_eq] at hn); (try simp only [push_cast, seval, *]))
    | (intro hc)
    | (apply ER_blk; (case hp => rfl); (case hb => (simp only [push_cast, seval]; rfl)); (case hd => (simp only [push_cast, seval]; done)); (case h => (intro hc; simp only [push_cast, seval, *]; rfl)); simp only [push_cast, seval, *])
    | fail)
      have o3 := (unhid o2).new hn (.r 80 4 1 [KC.av ⟨s, k, cn, cs⟩])
      have hM0q : M0 n = none := (unhid o2).none hn
      refine does_call rfl rfl ?_
      simp only [push_cast, seval, *]
      refine ACall.mono (kins_o o3 (upd_same _ _ _) (by simp only [List.length_map]; exact hil) (by simp only [List.length_map]; omega)) ?_
      intro x' H' hy
      rw [del_upd_same hM0q, unhid hrows] at hy
      have hy0 := hy.get m0
      have hycs := hy.cs
      obtain ⟨H2, l1, l2⟩ := (hy.turn m0 (bxT x')).cut (unhid hfin (bxT x'))
      clear o3 hy k0 k1 k2 hn0 hn1 hn2 m0 m1 m2
      replace l1 := Lib.hid l1
      replace l2 := Lib.hid l2
      (try simp only [push_cast, seval, *])
      repeat' (first
    | refine AW_seq_kn fun K hK => ?_
    | refine AW_block ?_
    | ((first
      | refine AW_region_draw (id := 1) E0 (fun f => [].contains f) dLTD1 dATD1 mixed (by kernel_rfl) ?_
      | refine AW_region_draw (id := 5) E0 (fun f => [].contains f) dLTD2 dATD2 mixed (by kernel_rfl) ?_
      | refine AW_region_draw (id := 7) E0 (fun f => [].contains f) dLTD3 dATD3 mixed (by kernel_rfl) ?_
      | refine AW_region E0 ?_ | refine AW_ret ?_ | refine AW_exit ?_ | refine AW_skip ?_ | unfold retQ); try simp only [push_cast, seval, *])
    | ((first | (apply AW_cond; (case hc => (simp only [push_cast, seval]; rfl))) | (apply ER_guard; (case hb => (simp only [push_cast, seval]; rfl)))); all_goals ((intro hc; first | (exfalso; simp only [push_cast, seval, *] at hc; done) | (exact absurd hc (by decide)) | ((try first | rw [Bool.not_true] at hc | rw [Bool.not_false] at hc); first | (with_reducible replace hc := tTT hc); clear hc | (with_reducible replace hc := tFF hc); clear hc | (have hp := hc; try simp only [decide_eq_true_eq, decide_eq_false_iff_not, bA, bB, bC, bD, bE, bF, bG, bH] at hp))) <;> try simp only [push_cast, seval, *]))
    | (refine Kn.go hK ?_; clear hK K)
    | refine Kn.go (by assumption) ?_
    | (intro n hn; (try simp only [upd_none2, join_none_iff, ite_none, ne_eq] at hn); (try simp only [push_cast, seval, *]))
    | (intro hc)
    | (apply ER_blk; (case hp => rfl); (case hb => (simp only [push_cast, seval]; rfl)); (case hd => (simp only [push_cast, seval]; done)); (case h => (intro hc; simp only [push_cast, seval, *]; rfl)); simp only [push_cast, seval, *])
    | fail)
      exact ⟨_, H2, Weak.less (unhid l1), x', unhid l2⟩
  · obtain ⟨y, hy, -⟩ := unhid hsm rfl
    have hil2 := (List.getElem?_eq_some_iff.1 hy).1
    have hw := unhid hwi hil2
    rcases hz3 with ⟨z1, z2⟩ | ⟨z1, z2⟩ | ⟨z1, z2⟩ | ⟨z1, z2⟩
    rotate_right
    · have hc := unhid hzy z1 z2
      have hS2 : S = l.take i ++ l.drop (i + 1) := by rw [unhid hS, if_pos rfl, if_pos hc]
      have hrows : (l.map KC.av).take i ++ (l.map KC.av).drop (i + 1) = S.map KC.av := by rw [hS2]; simp
      replace hrows := Lib.hid hrows
      clear hc hS2 hS
      replace hy := Lib.hid hy
      (try simp only [push_cast, seval, *])
      repeat' (first
    | refine AW_seq_kn fun K hK => ?_
    | refine AW_block ?_
    | ((first
      | refine AW_region_draw (id := 1) E0 (fun f => [].contains f) dLTD1 dATD1 mixed (by kernel_rfl) ?_
      | refine AW_region_draw (id := 5) E0 (fun f => [].contains f) dLTD2 dATD2 mixed (by kernel_rfl) ?_
      | refine AW_region_draw (id := 7) E0 (fun f => [].contains f) dLTD3 dATD3 mixed (by kernel_rfl) ?_
      | refine AW_region E0 ?_ | refine AW_ret ?_ | refine AW_exit ?_ | refine AW_skip ?_ | unfold retQ); try simp only [push_cast, seval, *])
    | ((first | (apply AW_cond; (case hc => (simp only [push_cast, seval]; rfl))) | (apply ER_guard; (case hb => (simp only [push_cast, seval]; rfl)))); all_goals ((intro hc; first | (exfalso; simp only [push_cast, seval, *] at hc; done) | (exact absurd hc (by decide)) | ((try first | rw [Bool.not_true] at hc | rw [Bool.not_false] at hc); first | (with_reducible replace hc := tTT hc); clear hc | (with_reducible replace hc := tFF hc); clear hc | (have hp := hc; try simp only [decide_eq_true_eq, decide_eq_false_iff_not, bA, bB, bC, bD, bE, bF, bG, bH] at hp))) <;> try simp only [push_cast, seval, *]))
    | (refine Kn.go hK ?_; clear hK K)
    | refine Kn.go (by assumption) ?_
    | (intro n hn; (try simp only [upd_none2, join_none_iff, ite_none, ne_eq] at hn); (try simp only [push_cast, seval, *]))
    | (intro hc)
    | (apply ER_blk; (case hp => rfl); (case hb => (simp only [push_cast, seval]; rfl)); (case hd => (simp only [push_cast, seval]; done)); (case h => (intro hc; simp only [push_cast, seval, *]; rfl)); simp only [push_cast, seval, *])
    | fail)
      refine does_call rfl rfl ?_
      simp only [push_cast, seval, *]
      refine ACall.mono (kdel_o (i := i) (j := i + 1) (unhid o2) (by omega) (by simp only [List.length_map]; omega)) ?_
      intro x' H' hy
      rw [unhid hrows] at hy
      have hy0 := hy.get m0
      have hycs := hy.cs
      obtain ⟨H2, l1, l2⟩ := (hy.turn m0 (bxT x')).cut (unhid hfin (bxT x'))
      clear hy k0 k1 k2 hn0 hn1 hn2 m0 m1 m2
      replace l1 := Lib.hid l1
      replace l2 := Lib.hid l2
      (try simp only [push_cast, seval, *])
      repeat' (first
    | refine AW_seq_kn fun K hK => ?_
    | refine AW_block ?_
    | ((first
      | refine AW_region_draw (id := 1) E0 (fun f => [].contains f) dLTD1 dATD1 mixed (by kernel_rfl) ?_
      | refine AW_region_draw (id := 5) E0 (fun f => [].contains f) dLTD2 dATD2 mixed (by kernel_rfl) ?_
      | refine AW_region_draw (id := 7) E0 (fun f => [].contains f) dLTD3 dATD3 mixed (by kernel_rfl) ?_
      | refine AW_region E0 ?_ | refine AW_ret ?_ | refine AW_exit ?_ | refine AW_skip ?_ | unfold retQ); try simp only [push_cast, seval, *])
    | ((first | (apply AW_cond; (case hc => (simp only [push_cast, seval]; rfl))) | (apply ER_guard; (case hb => (simp only [push_cast, seval]; rfl)))); all_goals ((intro hc; first | (exfalso; simp only [push_cast, seval, *] at hc; done) | (exact absurd hc (by decide)) | ((try first | rw [Bool.not_true] at hc | rw [Bool.not_false] at hc); first | (with_reducible replace hc := tTT hc); clear hc | (with_reducible replace hc := tFF hc); clear hc | (have hp := hc; try simp only [decide_eq_true_eq, decide_eq_false_iff_not, bA, bB, bC, bD, bE, bF, bG, bH] at hp))) <;> try simp only [push_cast, seval, *]))
    | (refine Kn.go hK ?_; clear hK K)
    | refine Kn.go (by assumption) ?_
    | (intro n hn; (try simp only [upd_none2, join_none_iff, ite_none, ne_eq] at hn); (try simp only [push_cast, seval, *]))
    | (intro hc)
    | (apply ER_blk; (case hp => rfl); (case hb => (simp only [push_cast, seval]; rfl)); (case hd => (simp only [push_cast, seval]; done)); (case h => (intro hc; simp only [push_cast, seval, *]; rfl)); simp only [push_cast, seval, *])
    | fail)
      exact ⟨_, H2, Weak.less (unhid l1), x', unhid l2⟩
    all_goals
      have hc := unhid hzn (by first | exact .inl z1 | exact .inr z2)
      have hS2 : S = l.set i (putC y ⟨cn, cs⟩) := by rw [unhid hS, if_pos rfl, if_neg hc, modify_set _ hy]
      rcases (unhid o2).split with ⟨ad, rfl, e0, e1⟩ | ⟨q, cap, rfl, e1, hm⟩
      · exfalso; rw [List.map_eq_nil_iff.1 e0] at hy; simp at hy
      simp only [List.length_map] at hcs e1 m0 k0 ⊢
      obtain ⟨ys, yk, yn, yt⟩ := y
      have hiL : (i : Int) < l.length := by omega
      have km : M q = some (.r 80 4 cap (l.map KC.av)) := by rw [e1]; exact upd_same _ _ _
      have hset : (l.map KC.av).set i [.c (.int .i64 ys), .c (.int .i64 yk), .c (.int .i64 cn), .c (.int .i64 cs)] = S.map KC.av := by rw [hS2, List.map_set]; rfl
      have hSl : l.length = (S.map KC.av).length := by rw [hS2]; simp
      have hB'' : upd M q (.r 80 4 cap (S.map KC.av)) = upd M0 q (.r 80 4 cap (S.map KC.av)) := by rw [e1, upd_upd]
      have ho2 : OwnL (upd M0 q (.r 80 4 cap (S.map KC.av))) (.s q 4 0 l.length cap) 80 4 (S.map KC.av) M0 := OwnL.at hSl hm
      have hnq : ¬ nb = q := by rintro rfl; rw [m0] at hm; cases hm
      obtain ⟨H2, l1, l2⟩ := (ho2.turn m0 (bxT (.s q 4 0 l.length cap))).cut (unhid hfin (bxT (.s q 4 0 l.length cap)))
      rw [upd_self (by rw [upd_ne hnq]; exact m0), ← hB''] at l1
      clear hc hS2 hS ho2 e1 hm hB'' hSl o2 m0 m1 m2
      replace l1 := Lib.hid l1
      replace l2 := Lib.hid l2
      (try simp only [push_cast, seval, *])
      repeat' (first
    | refine AW_seq_kn fun K hK => ?_
    | refine AW_block ?_
    | ((first
      | refine AW_region_draw (id := 1) E0 (fun f => [].contains f) dLTD1 dATD1 mixed (by kernel_rfl) ?_
      | refine AW_region_draw (id := 5) E0 (fun f => [].contains f) dLTD2 dATD2 mixed (by kernel_rfl) ?_
      | refine AW_region_draw (id := 7) E0 (fun f => [].contains f) dLTD3 dATD3 mixed (by kernel_rfl) ?_
      | refine AW_region E0 ?_ | refine AW_ret ?_ | refine AW_exit ?_ | refine AW_skip ?_ | unfold retQ); try simp only [push_cast, seval, *])
    | ((first | (apply AW_cond; (case hc => (simp only [push_cast, seval]; rfl))) | (apply ER_guard; (case hb => (simp only [push_cast, seval]; rfl)))); all_goals ((intro hc; first | (exfalso; simp only [push_cast, seval, *] at hc; done) | (exact absurd hc (by decide)) | ((try first | rw [Bool.not_true] at hc | rw [Bool.not_false] at hc); first | (with_reducible replace hc := tTT hc); clear hc | (with_reducible replace hc := tFF hc); clear hc | (have hp := hc; try simp only [decide_eq_true_eq, decide_eq_false_iff_not, bA, bB, bC, bD, bE, bF, bG, bH] at hp))) <;> try simp only [push_cast, seval, *]))
    | (refine Kn.go hK ?_; clear hK K)
    | refine Kn.go (by assumption) ?_
    | (intro n hn; (try simp only [upd_none2, join_none_iff, ite_none, ne_eq] at hn); (try simp only [push_cast, seval, *]))
    | (intro hc)
    | (apply ER_blk; (case hp => rfl); (case hb => (simp only [push_cast, seval]; rfl)); (case hd => (simp only [push_cast, seval]; done)); (case h => (intro hc; simp only [push_cast, seval, *]; rfl)); simp only [push_cast, seval, *])
    | fail)
      exact ⟨_, H2, Weak.less (unhid l1), _, unhid l2⟩
end Go.Proofs.Ytmkncbddjnaklaa
