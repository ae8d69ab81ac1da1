/- What records do to a table, as plain Lean; two owned rows behind two cells. -/
import Derived.Test.YtmkncbddjnaklaaTE
import Derived.Test.YtmkncbddjnaklaaTJ0
namespace Go.Proofs.Ytmkncbddjnaklaa
open Go.RowKit
open Nat renaming reduceEqDiff → nA, reduceLT → nB, reduceLeDiff → nC, reduceAdd → nD, reduceMul → nE, reduceSub → nF, reduceBEq → nG
open Int renaming reduceToNat → iA, reduceLT → iB, reduceLE → iC, reduceEq → iD
open Bool renaming and_eq_true → bA, or_eq_true → bB, or_eq_false_iff → bC, and_eq_false_iff → bD, not_eq_true' → bE, not_eq_false' → bF, not_true → bG, not_false → bH
set_option linter.all false
set_option maxHeartbeats 4000000
attribute [local irreducible] AW Does ACall tE tS tB tZ

theorem cmp_new (x : KC) (r : Rec) (c : CellD) : cmpR (keyS (newC r c)) (keyS x) < 0 ↔ 0 < cmpR (keyS x) r := by
  rw [cmpR_neg, cmpR_pos]; simp only [keyS, newC]; omega
theorem new_cmp (x : KC) (r : Rec) (c : CellD) : cmpR (keyS x) (keyS (newC r c)) < 0 ↔ cmpR (keyS x) r < 0 := by
  rw [cmpR_neg, cmpR_neg]; exact Iff.rfl
theorem rp_mem (r : Rec) (c : CellD) : ∀ (l : List KC) (d : Bool) (z : KC), z ∈ rpGo r c d l → z ∈ l ∨ z = newC r c
  | [], d, z, h => by
    simp only [rpGo] at h
    split at h
    · cases h
    · right; simpa using h
  | x :: l, d, z, h => by
    simp only [rpGo, List.mem_append] at h
    rcases h with (h | h) | h
    · split at h
      · right; simpa using h
      · cases h
    · split at h
      · cases h
      · left; rw [List.mem_singleton] at h; rw [h]; simp
    · rcases rp_mem r c l _ z h with h | h
      · left; simp [h]
      · exact .inr h
theorem rp_true (r : Rec) (c : CellD) : ∀ l : List KC, rpGo r c true l = l.filter fun x => !decide (cmpR (keyS x) r = 0)
  | [] => rfl
  | x :: l => by
    simp only [rpGo, Bool.not_true, Bool.false_and, Bool.false_eq_true, if_false, List.nil_append, Bool.true_or]
    rw [rp_true r c l, List.filter_cons]
    by_cases h : cmpR (keyS x) r = 0 <;> simp [h]
theorem rp_rise (r : Rec) (c : CellD) : ∀ (l : List KC) (d : Bool), Rise l → Rise (rpGo r c d l)
  | l, true, h => by rw [rp_true]; exact List.Pairwise.filter _ h
  | [], false, h => by simp [rpGo, Rise]
  | x :: l, false, h => by
    have ht := (List.pairwise_cons.1 h).2
    by_cases hn : cmpR (keyS x) r < 0
    · simp only [rpGo]
      rw [decide_eq_false (by omega : ¬ 0 < cmpR (keyS x) r), if_neg (by omega : ¬ cmpR (keyS x) r = 0)]
      simp only [Bool.not_false, Bool.and_false, Bool.false_eq_true, if_false, List.nil_append, Bool.false_or, List.cons_append]
      refine List.pairwise_cons.2 ⟨fun y hy => ?_, rp_rise r c l false ht⟩
      rcases rp_mem r c l false y hy with h1 | rfl
      · exact (List.pairwise_cons.1 h).1 y h1
      · exact (new_cmp x r c).2 hn
    have hp := rise_tail h (r := r) (by omega)
    by_cases hz : cmpR (keyS x) r = 0
    · simp only [rpGo]
      rw [decide_eq_false (by omega : ¬ 0 < cmpR (keyS x) r), if_pos hz]
      simp only [Bool.not_false, Bool.and_false, Bool.false_eq_true, if_false, List.nil_append, Bool.false_or]
      rw [rpGo_pos r c l hp]
      exact List.pairwise_cons.2 ⟨fun y hy => (cmp_new y r c).2 (hp y hy), ht⟩
    · have hpx : 0 < cmpR (keyS x) r := by omega
      have hall : ∀ y ∈ x :: l, 0 < cmpR (keyS y) r := fun y hy => by
        rcases List.mem_cons.1 hy with rfl | hy
        · exact hpx
        · exact hp y hy
      rw [rpGo_pos r c _ hall]
      exact List.pairwise_cons.2 ⟨fun y hy => (cmp_new y r c).2 (hall y hy), h⟩
theorem setS_rise {l : List KC} (h : Rise l) (r : Rec) (c : CellD) : Rise (setS l r c) := by
  rw [setS_rp r c l h]; exact rp_rise r c l _ h
theorem setS_len (l : List KC) (r : Rec) (c : CellD) : (setS l r c).length ≤ l.length + 1 := by
  unfold setS
  repeat' split
  all_goals simp
  all_goals omega
def getA (l : List KC) (r : Rec) : CellD := if atB l r = true then (match l[atI l r]? with | some x => cellK x | none => ⟨0, 0⟩) else ⟨0, 0⟩
theorem getA_getS (r : Rec) : ∀ l : List KC, Rise l → getA l r = getS l r
  | [], _ => by simp [getA, atB, bsF, getS]
  | x :: l, h => by
    have ht := (List.pairwise_cons.1 h).2
    have ih := getA_getS r l ht
    by_cases hn : cmpR (keyS x) r < 0
    · have e1 : atI (x :: l) r = atI l r + 1 := by simp [atI, lbd, List.takeWhile_cons, hn]
      have e2 : atB (x :: l) r = atB l r := by
        unfold atB bsF
        have : lbd (fun x => decide (cmpR (keyS x) r < 0)) (x :: l) = lbd (fun x => decide (cmpR (keyS x) r < 0)) l + 1 := e1
        rw [this, List.getElem?_cons_succ]
      have e3 : getA (x :: l) r = getA l r := by unfold getA; rw [e1, e2, List.getElem?_cons_succ]
      have e4 : getS (x :: l) r = getS l r := by
        unfold getS; rw [List.find?_cons, decide_eq_false (by omega : ¬ cmpR (keyS x) r = 0)]
      rw [e3, e4, ih]
    have hp := rise_tail h (r := r) (by omega)
    have e1 : atI (x :: l) r = 0 := by simp [atI, lbd, List.takeWhile_cons, hn]
    have e2 : atB (x :: l) r = decide (cmpR (keyS x) r = 0) := by
      unfold atB bsF
      have : lbd (fun x => decide (cmpR (keyS x) r < 0)) (x :: l) = 0 := e1
      rw [this]; rfl
    by_cases hz : cmpR (keyS x) r = 0
    · unfold getA getS
      rw [e1, e2, List.find?_cons, decide_eq_true hz]; rfl
    · have hg := getS_none (l := x :: l) (r := r) (fun y hy => decide_eq_false (by
        rcases List.mem_cons.1 hy with rfl | hy
        · exact hz
        · have := hp y hy; omega))
      rw [hg]; unfold getA; rw [e2, decide_eq_false hz]; rfl
def recV (r : Rec) (v : Int) : Rec := ⟨r.s, r.k, v⟩
def runA (o : OpD) : List KC → List Rec → List Rec → List KC × List Rec × Int
  | T, O, [] => (T, O, 0)
  | T, O, r :: l => if recOk r = false then (T, O, 150) else if (runS o (getS T r) [r.v]).2.2 ≠ 0 then (T, O, (runS o (getS T r) [r.v]).2.2)
    else runA o (setS T r (runS o (getS T r) [r.v]).1) (O ++ (runS o (getS T r) [r.v]).2.1.map (recV r)) l
/-- two owned rows, each behind a cell -/
def TwoO (Q : Heap) (nb no : Nat) (x y : AV) (T : List KC) (O : List Rec) (B : Heap) : Prop :=
  ∃ G, OwnL G y 54 3 (O.map Rec.av) (upd Q no (.r 50 1 1 [[y]])) ∧ OwnL B x 80 4 (T.map KC.av) (upd G nb (bxT x)) ∧ G nb = none
abbrev bxO (y : AV) : Blk := .r 50 1 1 [[y]]
theorem TwoO.set {Q : Heap} {nb no : Nat} {x y : AV} {T : List KC} {O : List Rec} {B : Heap} (h : TwoO Q nb no x y T O B) (hl : T.length ≤ 100000) (hr : Rise T) (r : Rec) (c : CellD) :
    ACall Try.prog 77 [.p nb 1 0 0, .g (Rec.av r), .g (CellD.av c)] B fun _ H' => ∃ x', TwoO Q nb no x' y (setS T r c) O H' := by
  obtain ⟨G, h1, h2, h3⟩ := h
  refine (set_o T hl hr r c x nb G B h3 h2).mono ?_
  rintro _ H' ⟨x', h4⟩
  exact ⟨x', G, h1, h4, h3⟩
theorem TwoO.get {Q : Heap} {nb no : Nat} {x y : AV} {T : List KC} {O : List Rec} {B : Heap} (h : TwoO Q nb no x y T O B) (hno : Q no = none) {m : Nat} {k : Blk} (hm : Q m = some k) : B m = some k := by
  obtain ⟨G, h1, h2, h3⟩ := h
  have e1 : m ≠ no := by rintro rfl; rw [hno] at hm; cases hm
  have g1 : G m = some k := h1.get (by rw [upd_ne e1]; exact hm)
  have e2 : m ≠ nb := by rintro rfl; rw [h3] at g1; cases g1
  exact h2.get (by rw [upd_ne e2]; exact g1)
theorem TwoO.getb {Q : Heap} {nb no : Nat} {x y : AV} {T : List KC} {O : List Rec} {B : Heap} (h : TwoO Q nb no x y T O B) : B nb = some (bxT x) := by
  obtain ⟨G, h1, h2, h3⟩ := h
  exact h2.get (upd_same _ _ _)
theorem TwoO.geto {Q : Heap} {nb no : Nat} {x y : AV} {T : List KC} {O : List Rec} {B : Heap} (h : TwoO Q nb no x y T O B) : B no = some (bxO y) := by
  obtain ⟨G, h1, h2, h3⟩ := h
  have g1 : G no = some (bxO y) := h1.get (upd_same _ _ _)
  have e2 : no ≠ nb := by rintro rfl; rw [h3] at g1; cases g1
  exact h2.get (by rw [upd_ne e2]; exact g1)
theorem TwoO.new {Q : Heap} {nb no : Nat} {x y : AV} {T : List KC} {O : List Rec} {B : Heap} (h : TwoO Q nb no x y T O B) {m : Nat} (hm : B m = none) (k : Blk) : TwoO (upd Q m k) nb no x y T O (upd B m k) ∧ Q m = none := by
  obtain ⟨G, h1, h2, h3⟩ := h
  have g1 := h2.none hm
  rw [upd_none] at g1
  have g2 := h1.none g1.2
  rw [upd_none] at g2
  refine ⟨⟨upd G m k, ?_, ?_, ?_⟩, g2.2⟩
  · have := h1.new g1.2 k
    rw [upd_comm (Ne.symm g2.1)] at this; exact this
  · have := h2.new hm k
    rw [upd_comm (Ne.symm g1.1)] at this; exact this
  · rw [upd_ne (Ne.symm g1.1)]; exact h3
theorem TwoO.cut {Q Q' : Heap} {nb no : Nat} {x y : AV} {T : List KC} {O : List Rec} {B : Heap} (h : TwoO Q nb no x y T O B) (hq : Heap.le Q' Q) : ∃ B', Heap.le B' B ∧ TwoO Q' nb no x y T O B' := by
  obtain ⟨G, h1, h2, h3⟩ := h
  obtain ⟨G', l1, l2⟩ := h1.cut (hle_upd2 hq no (bxO y))
  obtain ⟨B', l3, l4⟩ := h2.cut (hle_upd2 l1 nb (bxT x))
  refine ⟨B', l3, G', l2, l4, ?_⟩
  cases e : G' nb with
  | none => rfl
  | some k => have := l1 _ _ e; rw [h3] at this; cases this
theorem upd_del_same {H : Heap} {n : Nat} {k : Blk} (h : H n = some k) : upd (del H n) n k = H := by
  funext q; unfold upd del; by_cases e : q = n
  · subst e; simp [h]
  · simp [e]
theorem TwoO.out {Q : Heap} {nb no : Nat} {x y : AV} {T : List KC} {O : List Rec} {B : Heap} (h : TwoO Q nb no x y T O B) (hnb : Q nb = none) :
    ∃ M, OwnL B y 54 3 (O.map Rec.av) M ∧ M no = some (bxO y) ∧ M nb = some (bxT x) ∧ ∀ B2 y2 O2, OwnL B2 y2 54 3 (O2.map Rec.av) M → TwoO Q nb no x y2 T O2 (upd B2 no (bxO y2)) := by
  obtain ⟨G, h1, h2, h3⟩ := h
  have g1 : G no = some (bxO y) := h1.get (upd_same _ _ _)
  have e2 : no ≠ nb := by rintro rfl; rw [h3] at g1; cases g1
  obtain ⟨M, m1, m2⟩ := h2.swap (h1.new h3 (bxT x))
  refine ⟨M, m1, m2.get (by rw [upd_ne e2]; exact upd_same _ _ _), m2.get (upd_same _ _ _), fun B2 y2 O2 hB => ?_⟩
  have k1 : upd (upd Q no (bxO y)) nb (bxT x) no = some (bxO y) := by rw [upd_ne e2]; exact upd_same _ _ _
  have t1 := hB.turn (m2.get k1) (bxO y2)
  have t2 := m2.turn k1 (bxO y2)
  obtain ⟨H3, s1, s2⟩ := t1.swap t2
  have e3 : upd (upd (upd Q no (bxO y)) nb (bxT x)) no (bxO y2) = upd (upd Q no (bxO y2)) nb (bxT x) := by rw [upd_comm e2, upd_upd]; exact upd_comm (Ne.symm e2)
  rw [e3] at s2
  have h3n : H3 nb = some (bxT x) := s2.get (upd_same _ _ _)
  have s3 := s2.dele (upd_same _ _ _)
  rw [del_upd_same (by rw [upd_ne (Ne.symm e2)]; exact hnb)] at s3
  exact ⟨del H3 nb, s3, by rw [upd_del_same h3n]; exact s1, del_same _ _⟩
theorem tGo_of : ∀ (l : List KC) (p : Option KC), Rise l → (∀ x ∈ l, recOk (keyS x) = true ∧ 1 ≤ x.n) → (∀ y, p = some y → ∀ x ∈ l, cmpR (keyS y) (keyS x) < 0) → tGo p l = true
  | [], p, _, _, _ => by cases p <;> rfl
  | x :: l, p, h, ha, hp => by
    have hx := ha x (by simp)
    have ht := List.pairwise_cons.1 h
    have haft : aft p x = true := by
      cases p with
      | none => rfl
      | some y => exact decide_eq_true (hp y rfl x (by simp))
    simp only [tGo, hx.1, haft, decide_eq_true hx.2, Bool.and_true, Bool.true_and]
    exact tGo_of l (some x) ht.2 (fun z hz => ha z (by simp [hz])) (fun y hy z hz => by cases hy; exact ht.1 z hz)
theorem tGo_mem : ∀ (l : List KC) (p : Option KC), tGo p l = true → ∀ x ∈ l, recOk (keyS x) = true ∧ 1 ≤ x.n
  | [], _, _, x, hx => by cases hx
  | y :: l, p, h, x, hx => by
    simp only [tGo, Bool.and_eq_true, decide_eq_true_eq] at h
    rcases List.mem_cons.1 hx with rfl | hx
    · exact ⟨h.1.1.1, h.1.1.2⟩
    · exact tGo_mem l (some y) h.2 x hx
theorem tOk_set {T : List KC} (h : tOk T = true) {r : Rec} (hr : recOk r = true) {c : CellD} (hc : c = zeroC ∨ 1 ≤ c.count) : tOk (setS T r c) = true := by
  have hri := tOk_rise h
  refine tGo_of _ none (setS_rise hri r c) (fun x hx => ?_) (fun y hy => by cases hy)
  have hm := tGo_mem T none h
  rw [setS_rp r c T hri] at hx
  by_cases hz : c = zeroC
  · rw [decide_eq_true hz, rp_true] at hx
    exact hm x (List.mem_filter.1 hx).1
  · rcases rp_mem r c T _ x hx with h1 | rfl
    · exact hm x h1
    · exact ⟨hr, by rcases hc with h1 | h1; exact absurd h1 hz; exact h1⟩
end Go.Proofs.Ytmkncbddjnaklaa
