/- Walks: an element is taken. -/
import Derived.Test.YtcmpciciodcddaaN
namespace Go.Proofs.Ytcmpciciodcddaa
open Go.RowKit
open Nat renaming reduceEqDiff → nA, reduceLT → nB, reduceLeDiff → nC, reduceAdd → nD, reduceMul → nE, reduceSub → nF, reduceBEq → nG
open Int renaming reduceToNat → iA, reduceLT → iB, reduceLE → iC, reduceEq → iD
open Bool renaming and_eq_true → bA, or_eq_true → bB, or_eq_false_iff → bC, and_eq_false_iff → bD, not_eq_true' → bE, not_eq_false' → bF, not_true → bG, not_false → bH
set_option linter.all false
set_option maxHeartbeats 4000000
attribute [local irreducible] AW Does

structure Tk where
  g : Gt
  e : El
  b : Bool
def toldS (g : Gt) : Tk := if (decide (0 < g.nu) && allHE g.qs) = true then ⟨⟨g.qs.map frQ, 0, g.nu⟩, barEl g.nu, true⟩ else ⟨g, if g.qs.all Qu.en = true then endEl else noEl, g.qs.all Qu.en⟩
def barS (g : Gt) (k : Nat) (q : Qu) (num : Int) : Gt := if num ≤ g.dn ∨ num < g.nu then g else if g.nu < num then ⟨(g.qs.map frQ).set k (heQ q), num, g.dn⟩ else ⟨g.qs.set k (heQ q), g.nu, g.dn⟩
theorem toldS_len (g : Gt) : (toldS g).g.qs.length = g.qs.length := by unfold toldS; split <;> simp
theorem barS_len (g : Gt) (k : Nat) (q : Qu) (num : Int) : (barS g k q num).qs.length = g.qs.length := by
  unfold barS; split
  · rfl
  · split <;> simp
theorem told_a (g : Gt) (c np m : Nat) (H : Heap) (hc : g.qs.length = c) (hs : c ≤ 1000) (h1 : H np = some (boxG m c g.nu g.dn)) (h2 : H m = some (rowsQ c g.qs)) :
    ACall Try.prog 38 [.p np 3 0 0] H fun r H' => r = .t [.g (El.av (toldS g).e), .c (.bool (toldS g).b)] ∧ H' = upd (upd H np (boxG m c (toldS g).g.nu (toldS g).g.dn)) m (rowsQ c (toldS g).g.qs) := by
  subst hc
  obtain ⟨l, nu, dn⟩ := g
  cases hb : (decide (0 < nu) && allHE l)
  · have e1 : toldS ⟨l, nu, dn⟩ = ⟨⟨l, nu, dn⟩, if l.all Qu.en = true then endEl else noEl, l.all Qu.en⟩ := by unfold toldS; simp only [hb]; rfl
    rw [e1]
    simp only
    rw [upd_self h1, upd_self h2]
    exact told_no l nu dn np m H hs h1 h2 hb
  · have e1 : toldS ⟨l, nu, dn⟩ = ⟨⟨l.map frQ, 0, nu⟩, barEl nu, true⟩ := by unfold toldS; simp only [hb, if_true]
    rw [e1]
    simp only [Bool.and_eq_true, decide_eq_true_eq] at hb
    exact told_bar l nu dn np m H hs h1 h2 hb.1 hb.2
theorem barrier_a (g : Gt) (c np m k : Nat) (q : Qu) (num : Int) (H : Heap) (hc : g.qs.length = c) (hs : c ≤ 1000) (hk : g.qs[k]? = some q) (h1 : H np = some (boxG m c g.nu g.dn)) (h2 : H m = some (rowsQ c g.qs)) :
    ACall Try.prog 37 [.p np 3 0 0, .c (.int .i64 (k : Int)), .c (.int .u64 num)] H fun _ H' => H' = upd (upd H m (rowsQ c (barS g k q num).qs)) np (boxG m c (barS g k q num).nu (barS g k q num).dn) := by
  subst hc
  have hpm : ¬ np = m := by intro h; subst h; rw [h1] at h2; cases h2
  obtain ⟨l, nu, dn⟩ := g
  simp only at h1 h2 hk hs
  unfold barS
  simp only
  by_cases c1 : num ≤ dn ∨ num < nu
  · rw [if_pos c1]
    simp only
    rw [upd_self h2, upd_self h1]
    exact barrier_no l nu dn num k np m H h1 c1
  · rw [if_neg c1]
    have c2 : ¬ num ≤ dn := fun h => c1 (.inl h)
    have c3 : ¬ num < nu := fun h => c1 (.inr h)
    by_cases c4 : nu < num
    · rw [if_pos c4]
      exact barrier_new l nu dn num k np m q H hs hk h1 h2 c2 c4
    · rw [if_neg c4]
      simp only
      have := barrier_on l nu dn num k np m q H hk h1 h2 c2 c3 c4
      refine this.mono fun r H' h => ?_
      rw [h]
      exact (upd_self (by rw [upd_ne hpm]; exact h1)).symm
def takQ (q : Qu) : Qu := { q with el := q.el.drop 1 }
def takG (g : Gt) (k : Nat) (q : Qu) (e : El) : Tk :=
  if e.kd = 1 then ⟨withS g k (takQ q), e, true⟩
  else if e.kd = 2 then toldS (barS (withS g k (takQ q)) k (takQ q) e.n)
  else toldS (withS g k { takQ q with en := true })
def Tk.av (t : Tk) : AV := .t [.g (Gt.av t.g), .g (El.av t.e), .c (.bool t.b), .c (.int .i64 0)]

theorem take_ok (l : List Qu) (nu dn : Int) (k : Nat) (e : El) (ql : List El) (qla : Int) (qen : Bool) (H : Heap) (hg : Lens ⟨l, nu, dn⟩) (hs : l.length ≤ 1000) (hok : gOk ⟨l, nu, dn⟩ = true) (c0 : ¬ (k : Int) < 0) (hk : l[k]? = some ⟨ql, qla, false, qen⟩) (hkl : ¬ (l.length : Int) ≤ (k : Int)) (hklt : (k : Int) < (l.length : Int)) (h4 : ql.length ≤ 4) (hq0 : ql[0]? = some e) (hel : elOk e = true) :
    ACall Try.prog 18 [.g (Gt.av ⟨l, nu, dn⟩), .c (.int .i64 (k : Int))] H fun r H' => r = Tk.av (takG ⟨l, nu, dn⟩ k ⟨ql, qla, false, qen⟩ e) ∧ H' = H := by
  have hkk : k < l.length := by omega
  have hcop := copied_o ⟨l, nu, dn⟩ hs
  have hpos : 0 < ql.length := (List.getElem?_eq_some_iff.1 hq0).1
  have hop : openQ ⟨ql, qla, false, qen⟩ = true := by simp [openQ]; omega
  have hposI : (0 : Int) < ql.length := by omega
  have htl : (ql.drop 1).length ≤ 4 := by simp; omega
  obtain ⟨tl, htl0⟩ : ∃ tl, tl = ql.drop 1 := ⟨_, rfl⟩
  have htk : takQ ⟨ql, qla, false, qen⟩ = ⟨tl, qla, false, qen⟩ := by rw [htl0]; rfl
  rw [← htl0] at htl
  have hdr : List.drop 1 (List.map El.av ql) = List.map El.av tl := by rw [htl0, List.map_drop]
  have h1l : (1 : Int) ≤ ql.length := by omega
  have hdr2 : List.take (ql.length - 1) (List.map El.av tl) = List.map El.av tl := List.take_of_length_le (by rw [htl0]; simp)
  clear htl0
  simp only [Gt.av] at hcop
  have hkd : e.kd = 1 ∨ e.kd = 2 ∨ e.kd = 3 := by
    unfold elOk at hel
    by_cases h1 : e.kd = 1
    · exact .inl h1
    · by_cases h2 : e.kd = 2
      · exact .inr (.inl h2)
      · by_cases h3 : e.kd = 3
        · exact .inr (.inr h3)
        · simp [h1, h2, h3] at hel
  obtain ⟨L, hL⟩ : ∃ L, L = l.set k ⟨tl, qla, false, qen⟩ := ⟨_, rfl⟩
  have hLl : L.length = l.length := by rw [hL]; simp
  have hLk : L[k]? = some ⟨tl, qla, false, qen⟩ := by rw [hL]; simp [hkk]
  have hset : (List.map Qu.av l).set k [AV.l 5 (List.map El.av tl), AV.c (.int .u64 qla), AV.c (.bool false), AV.c (.bool qen)] = List.map Qu.av L := by rw [hL, List.map_set]; rfl
  have fin : ∀ (T : Tk) (m : Nat) (G : Heap), T.g.qs.length = l.length → H m = none → G m = some (rowsQ l.length T.g.qs) → Heap.le H G →
      ∃ r2 H2, Weak (.t [.g [.s m 4 0 l.length l.length, .c (.int .u64 T.g.nu), .c (.int .u64 T.g.dn)], .g (El.av T.e), .c (.bool T.b), .c (.int .i64 0)]) G r2 H2 ∧ r2 = Tk.av T ∧ H2 = H := fun T m G hl hm hG hle =>
    ⟨_, H, ((OwnL.of (m := m) (ty := 39) (cap := l.length) (rows := T.g.qs.map Qu.av) hG (by simp [hl])).weak (fun F F' hF hi ho => Imp.t (Imps.cons (Imp.g (Imps.cons hi (fun _ => rfl) (Imps.cons (Imp.refl hF _) id (Imps.cons (Imp.refl hF _) id Imps.nil)))) (by intro hh; cases hh) (Imps.refl hF _)))).trans (Weak.less (le_del hle hm)), rfl, rfl⟩
  rcases hkd with h1 | h2 | h3
  · have hT : takG ⟨l, nu, dn⟩ k ⟨ql, qla, false, qen⟩ e = ⟨⟨L, nu, dn⟩, e, true⟩ := by unfold takG; rw [if_pos h1, htk, hL]; rfl
    rw [hT]
    replace fin := fin ⟨⟨L, nu, dn⟩, e, true⟩
    obtain ⟨R, hR⟩ : ∃ R, R = Tk.av ⟨⟨L, nu, dn⟩, e, true⟩ := ⟨_, rfl⟩
    rw [← hR] at fin ⊢
    replace fin := Lib.hid (fin)
    clear hL hLk hR
    have h1T : (e.kd = 1) = True := by simp [h1]
    clear h1 hT
    refine ACall_of' Try.func18 rfl (Ent_of Try.func18 (by kernel_rfl) rfl) (by simp [Try.ntmps18]) ?_; simp only [Try.ntmps18, Try.results18]
    simp only [Gt.av]
    repeat' (first
    | refine AW_seq_kn fun K hK => ?_
    | refine AW_block ?_
    | (refine does_call rfl rfl ?_; simp only [push_cast, reduceIte, nA, nB, nC, reduceCtorEq, nD, nE, nF, nG, iA, iB, iC, iD, *]; refine ACall.mono (hcop _) ?_; rintro _ _ ⟨m, hm, rfl, rfl⟩; simp only [upd_none2, ne_eq] at hm; (try simp only [push_cast, reduceIte, nA, nB, nC, reduceCtorEq, nD, nE, nF, nG, iA, iB, iC, iD, *]))
    | (refine does_call rfl rfl ?_; simp only [push_cast, reduceIte, nA, nB, nC, reduceCtorEq, nD, nE, nF, nG, iA, iB, iC, iD, *]; refine ACall.mono (open_p ⟨_, _, _, _⟩ _) ?_; (rintro _ _ ⟨rfl, e2⟩; have e3 := e2.symm; clear e2; subst e3); (try simp only [push_cast, reduceIte, nA, nB, nC, reduceCtorEq, nD, nE, nF, nG, iA, iB, iC, iD, *]))
    | (refine does_call rfl rfl ?_; simp only [push_cast, reduceIte, nA, nB, nC, reduceCtorEq, nD, nE, nF, nG, iA, iB, iC, iD, *]; refine ACall.mono (open_p _ _) ?_; (rintro _ _ ⟨rfl, e2⟩; have e3 := e2.symm; clear e2; subst e3); (try simp only [push_cast, reduceIte, nA, nB, nC, reduceCtorEq, nD, nE, nF, nG, iA, iB, iC, iD, *]))
    | (refine does_call rfl rfl ?_; simp only [push_cast, reduceIte, nA, nB, nC, reduceCtorEq, nD, nE, nF, nG, iA, iB, iC, iD, *]; refine ACall.mono (check15_p ⟨_, _, _⟩ (by assumption) _) ?_; (rintro _ _ ⟨rfl, e2⟩; have e3 := e2.symm; clear e2; subst e3); (try simp only [push_cast, reduceIte, nA, nB, nC, reduceCtorEq, nD, nE, nF, nG, iA, iB, iC, iD, *]))
    | (refine does_call rfl rfl ?_; simp only [push_cast, reduceIte, nA, nB, nC, reduceCtorEq, nD, nE, nF, nG, iA, iB, iC, iD, *]; refine ACall.mono (clone_p _ (by omega) _) ?_; (rintro _ _ ⟨rfl, e2⟩; have e3 := e2.symm; clear e2; subst e3); (try simp only [push_cast, reduceIte, nA, nB, nC, reduceCtorEq, nD, nE, nF, nG, iA, iB, iC, iD, *]))
    | ((first
      | refine AW_region_draw (id := 12) E1 (fun f => [].contains f) [(0, false, []), (1, true, []), (2, false, [1]), (3, false, []), (4, false, []), (5, false, [])] [[], [], [0], [0, 1, 2], [0, 1, 2, 3], [0, 1, 2, 3, 4]] mixed (by kernel_rfl) ?_
      | refine AW_region_draw (id := 18) E1 (fun f => [].contains f) [(0, false, []), (1, true, []), (2, false, []), (3, false, [1]), (4, false, []), (5, false, []), (6, false, [])] [[], [], [], [0], [0, 1, 3], [0, 1, 2, 3, 4], [0, 1, 2, 3, 4, 5]] mixed (by kernel_rfl) ?_
      | refine AW_region E1 ?_ | refine AW_ret ?_ | refine AW_exit ?_ | refine AW_skip ?_ | unfold retQ); try simp only [push_cast, reduceIte, nA, nB, nC, reduceCtorEq, nD, nE, nF, nG, iA, iB, iC, iD, *])
    | (apply AW_cond; (case hc => (simp only [push_cast, reduceIte, nA, nB, nC, reduceCtorEq, nD, nE, nF, nG, iA, iB, iC, iD]; rfl)); all_goals (intro hc; first | (exfalso; simp only [push_cast, reduceIte, nA, nB, nC, reduceCtorEq, nD, nE, nF, nG, iA, iB, iC, iD, *] at hc; done) | (exact absurd hc (by decide)) | (with_reducible (have hcc : true = true := hc); clear hcc hc) | (with_reducible (have hcc : false = false := hc); clear hcc hc) | ((try simp only [Bool.not_true, Bool.not_false] at hc); (first | (with_reducible (have hcc : true = true := hc); clear hcc hc) | (with_reducible (have hcc : false = false := hc); clear hcc hc) | (have hp := hc; (try simp only [decide_eq_true_eq, decide_eq_false_iff_not, bA, bB, bC, bD, bE, bF, bG, bH] at hp))))))
    | (refine Kn.go hK ?_; clear hK K)
    | refine Kn.go (by assumption) ?_
    | (intro n hn; (try simp only [upd_none2, join_none_iff, ite_none, ne_eq] at hn); (try simp only [push_cast, reduceIte, nA, nB, nC, reduceCtorEq, nD, nE, nF, nG, iA, iB, iC, iD, *]))
    | (intro hc)
    | (apply ER_blk; (case hp => rfl); (case hb => (simp only [push_cast, reduceIte, nA, nB, nC, reduceCtorEq, nD, nE, nF, nG, iA, iB, iC, iD]; rfl)); (case hd => (simp only [push_cast, reduceIte, nA, nB, nC, reduceCtorEq, nD, nE, nF, nG, iA, iB, iC, iD]; done)); (case h => (intro hc; simp only [push_cast, reduceIte, nA, nB, nC, reduceCtorEq, nD, nE, nF, nG, iA, iB, iC, iD, *]; rfl)); simp only [push_cast, reduceIte, nA, nB, nC, reduceCtorEq, nD, nE, nF, nG, iA, iB, iC, iD, *])
    | (apply ER_guard; (case hb => (simp only [push_cast, reduceIte, nA, nB, nC, reduceCtorEq, nD, nE, nF, nG, iA, iB, iC, iD]; rfl)); all_goals ((intro hc; first | (exfalso; simp only [push_cast, reduceIte, nA, nB, nC, reduceCtorEq, nD, nE, nF, nG, iA, iB, iC, iD, *] at hc; done) | (exact absurd hc (by decide)) | (with_reducible (have hcc : true = true := hc); clear hcc hc) | (with_reducible (have hcc : false = false := hc); clear hcc hc) | ((try simp only [Bool.not_true, Bool.not_false] at hc); (first | (with_reducible (have hcc : true = true := hc); clear hcc hc) | (with_reducible (have hcc : false = false := hc); clear hcc hc) | (have hp := hc; (try simp only [decide_eq_true_eq, decide_eq_false_iff_not, bA, bB, bC, bD, bE, bF, bG, bH] at hp))))) <;> try simp only [push_cast, reduceIte, nA, nB, nC, reduceCtorEq, nD, nE, nF, nG, iA, iB, iC, iD, *]))
    | fail)
    refine unhid fin m _ hLl hm.2.2.2 ?_ ?_ <;> (simp only [push_cast, reduceIte, nA, nB, nC, reduceCtorEq, nD, nE, nF, nG, iA, iB, iC, iD, *])
  · have hT : takG ⟨l, nu, dn⟩ k ⟨ql, qla, false, qen⟩ e = toldS (barS ⟨L, nu, dn⟩ k ⟨tl, qla, false, qen⟩ e.n) := by unfold takG; rw [if_neg (by omega), if_pos h2, htk, hL]; rfl
    rw [hT]
    have hBl := barS_len ⟨L, nu, dn⟩ k ⟨tl, qla, false, qen⟩ e.n
    have hbar := fun G np m h1 h2 => barrier_a ⟨L, nu, dn⟩ l.length np m k ⟨tl, qla, false, qen⟩ e.n G hLl hs hLk h1 h2
    generalize barS ⟨L, nu, dn⟩ k ⟨tl, qla, false, qen⟩ e.n = Bg at *
    have hTl := toldS_len Bg
    have htold := fun G np m h1 h2 => told_a Bg l.length np m G (by rw [hBl]; exact hLl) hs h1 h2
    generalize toldS Bg = T at *
    replace fin := fin T
    obtain ⟨R, hR⟩ : ∃ R, R = Tk.av T := ⟨_, rfl⟩
    rw [← hR] at fin ⊢
    replace fin := Lib.hid (fin)
    have hTl2 : T.g.qs.length = l.length := by rw [hTl, hBl]; exact hLl
    clear hL hLk hR hTl hBl hT
    obtain ⟨⟨Tq, Tn, Td⟩, Te, Tb⟩ := T
    obtain ⟨Bq, Bn, Bd⟩ := Bg
    simp only [boxG, rowsQ] at hbar htold
    have h2T : (e.kd = 2) = True := by simp [h2]
    have h1F : (e.kd = 1) = False := by simp [h2]
    clear h2
    refine ACall_of' Try.func18 rfl (Ent_of Try.func18 (by kernel_rfl) rfl) (by simp [Try.ntmps18]) ?_; simp only [Try.ntmps18, Try.results18]
    simp only [Gt.av]
    repeat' (first
    | refine AW_seq_kn fun K hK => ?_
    | refine AW_block ?_
    | (refine does_call rfl rfl ?_; simp only [push_cast, reduceIte, nA, nB, nC, reduceCtorEq, nD, nE, nF, nG, iA, iB, iC, iD, *]; refine ACall.mono (hcop _) ?_; rintro _ _ ⟨m, hm, rfl, rfl⟩; simp only [upd_none2, ne_eq] at hm; (try simp only [push_cast, reduceIte, nA, nB, nC, reduceCtorEq, nD, nE, nF, nG, iA, iB, iC, iD, *]))
    | (refine does_call rfl rfl ?_; simp only [push_cast, reduceIte, nA, nB, nC, reduceCtorEq, nD, nE, nF, nG, iA, iB, iC, iD, *]; refine ACall.mono (hbar _ _ m (by simp only [push_cast, reduceIte, nA, nB, nC, reduceCtorEq, nD, nE, nF, nG, iA, iB, iC, iD, *]) (by simp only [push_cast, reduceIte, nA, nB, nC, reduceCtorEq, nD, nE, nF, nG, iA, iB, iC, iD, *])) ?_; rintro _ _ rfl; (try simp only [push_cast, reduceIte, nA, nB, nC, reduceCtorEq, nD, nE, nF, nG, iA, iB, iC, iD, *]))
    | (refine does_call rfl rfl ?_; simp only [push_cast, reduceIte, nA, nB, nC, reduceCtorEq, nD, nE, nF, nG, iA, iB, iC, iD, *]; refine ACall.mono (htold _ _ m (by simp only [push_cast, reduceIte, nA, nB, nC, reduceCtorEq, nD, nE, nF, nG, iA, iB, iC, iD, *]) (by simp only [push_cast, reduceIte, nA, nB, nC, reduceCtorEq, nD, nE, nF, nG, iA, iB, iC, iD, *])) ?_; (rintro _ _ ⟨rfl, e2⟩; have e3 := e2.symm; clear e2; subst e3); (try simp only [push_cast, reduceIte, nA, nB, nC, reduceCtorEq, nD, nE, nF, nG, iA, iB, iC, iD, *]))
    | (refine does_call rfl rfl ?_; simp only [push_cast, reduceIte, nA, nB, nC, reduceCtorEq, nD, nE, nF, nG, iA, iB, iC, iD, *]; refine ACall.mono (open_p ⟨_, _, _, _⟩ _) ?_; (rintro _ _ ⟨rfl, e2⟩; have e3 := e2.symm; clear e2; subst e3); (try simp only [push_cast, reduceIte, nA, nB, nC, reduceCtorEq, nD, nE, nF, nG, iA, iB, iC, iD, *]))
    | (refine does_call rfl rfl ?_; simp only [push_cast, reduceIte, nA, nB, nC, reduceCtorEq, nD, nE, nF, nG, iA, iB, iC, iD, *]; refine ACall.mono (open_p _ _) ?_; (rintro _ _ ⟨rfl, e2⟩; have e3 := e2.symm; clear e2; subst e3); (try simp only [push_cast, reduceIte, nA, nB, nC, reduceCtorEq, nD, nE, nF, nG, iA, iB, iC, iD, *]))
    | (refine does_call rfl rfl ?_; simp only [push_cast, reduceIte, nA, nB, nC, reduceCtorEq, nD, nE, nF, nG, iA, iB, iC, iD, *]; refine ACall.mono (check15_p ⟨_, _, _⟩ (by assumption) _) ?_; (rintro _ _ ⟨rfl, e2⟩; have e3 := e2.symm; clear e2; subst e3); (try simp only [push_cast, reduceIte, nA, nB, nC, reduceCtorEq, nD, nE, nF, nG, iA, iB, iC, iD, *]))
    | (refine does_call rfl rfl ?_; simp only [push_cast, reduceIte, nA, nB, nC, reduceCtorEq, nD, nE, nF, nG, iA, iB, iC, iD, *]; refine ACall.mono (clone_p _ (by omega) _) ?_; (rintro _ _ ⟨rfl, e2⟩; have e3 := e2.symm; clear e2; subst e3); (try simp only [push_cast, reduceIte, nA, nB, nC, reduceCtorEq, nD, nE, nF, nG, iA, iB, iC, iD, *]))
    | ((first
      | refine AW_region_draw (id := 12) E1 (fun f => [].contains f) [(0, false, []), (1, true, []), (2, false, [1]), (3, false, []), (4, false, []), (5, false, [])] [[], [], [0], [0, 1, 2], [0, 1, 2, 3], [0, 1, 2, 3, 4]] mixed (by kernel_rfl) ?_
      | refine AW_region_draw (id := 18) E1 (fun f => [].contains f) [(0, false, []), (1, true, []), (2, false, []), (3, false, [1]), (4, false, []), (5, false, []), (6, false, [])] [[], [], [], [0], [0, 1, 3], [0, 1, 2, 3, 4], [0, 1, 2, 3, 4, 5]] mixed (by kernel_rfl) ?_
      | refine AW_region E1 ?_ | refine AW_ret ?_ | refine AW_exit ?_ | refine AW_skip ?_ | unfold retQ); try simp only [push_cast, reduceIte, nA, nB, nC, reduceCtorEq, nD, nE, nF, nG, iA, iB, iC, iD, *])
    | (apply AW_cond; (case hc => (simp only [push_cast, reduceIte, nA, nB, nC, reduceCtorEq, nD, nE, nF, nG, iA, iB, iC, iD]; rfl)); all_goals (intro hc; first | (exfalso; simp only [push_cast, reduceIte, nA, nB, nC, reduceCtorEq, nD, nE, nF, nG, iA, iB, iC, iD, *] at hc; done) | (exact absurd hc (by decide)) | (with_reducible (have hcc : true = true := hc); clear hcc hc) | (with_reducible (have hcc : false = false := hc); clear hcc hc) | ((try simp only [Bool.not_true, Bool.not_false] at hc); (first | (with_reducible (have hcc : true = true := hc); clear hcc hc) | (with_reducible (have hcc : false = false := hc); clear hcc hc) | (have hp := hc; (try simp only [decide_eq_true_eq, decide_eq_false_iff_not, bA, bB, bC, bD, bE, bF, bG, bH] at hp))))))
    | (refine Kn.go hK ?_; clear hK K)
    | refine Kn.go (by assumption) ?_
    | (intro n hn; (try simp only [upd_none2, join_none_iff, ite_none, ne_eq] at hn); (try simp only [push_cast, reduceIte, nA, nB, nC, reduceCtorEq, nD, nE, nF, nG, iA, iB, iC, iD, *]))
    | (intro hc)
    | (apply ER_blk; (case hp => rfl); (case hb => (simp only [push_cast, reduceIte, nA, nB, nC, reduceCtorEq, nD, nE, nF, nG, iA, iB, iC, iD]; rfl)); (case hd => (simp only [push_cast, reduceIte, nA, nB, nC, reduceCtorEq, nD, nE, nF, nG, iA, iB, iC, iD]; done)); (case h => (intro hc; simp only [push_cast, reduceIte, nA, nB, nC, reduceCtorEq, nD, nE, nF, nG, iA, iB, iC, iD, *]; rfl)); simp only [push_cast, reduceIte, nA, nB, nC, reduceCtorEq, nD, nE, nF, nG, iA, iB, iC, iD, *])
    | (apply ER_guard; (case hb => (simp only [push_cast, reduceIte, nA, nB, nC, reduceCtorEq, nD, nE, nF, nG, iA, iB, iC, iD]; rfl)); all_goals ((intro hc; first | (exfalso; simp only [push_cast, reduceIte, nA, nB, nC, reduceCtorEq, nD, nE, nF, nG, iA, iB, iC, iD, *] at hc; done) | (exact absurd hc (by decide)) | (with_reducible (have hcc : true = true := hc); clear hcc hc) | (with_reducible (have hcc : false = false := hc); clear hcc hc) | ((try simp only [Bool.not_true, Bool.not_false] at hc); (first | (with_reducible (have hcc : true = true := hc); clear hcc hc) | (with_reducible (have hcc : false = false := hc); clear hcc hc) | (have hp := hc; (try simp only [decide_eq_true_eq, decide_eq_false_iff_not, bA, bB, bC, bD, bE, bF, bG, bH] at hp))))) <;> try simp only [push_cast, reduceIte, nA, nB, nC, reduceCtorEq, nD, nE, nF, nG, iA, iB, iC, iD, *]))
    | fail)
    refine unhid fin m _ hTl2 hm.2.2.2 ?_ ?_ <;> (simp only [push_cast, reduceIte, nA, nB, nC, reduceCtorEq, nD, nE, nF, nG, iA, iB, iC, iD, *])
  · have hLe : (l.set k { takQ ⟨ql, qla, false, qen⟩ with en := true }) = L.set k ⟨tl, qla, false, true⟩ := by rw [hL, htk]; simp
    have hT : takG ⟨l, nu, dn⟩ k ⟨ql, qla, false, qen⟩ e = toldS ⟨L.set k ⟨tl, qla, false, true⟩, nu, dn⟩ := by
      unfold takG; rw [if_neg (by omega), if_neg (by omega)]; unfold withS; rw [hLe]
    rw [hT]
    have hset2 : (List.map Qu.av L).set k [AV.l 5 (List.map El.av tl), AV.c (.int .u64 qla), AV.c (.bool false), AV.c (.bool true)] = List.map Qu.av (L.set k ⟨tl, qla, false, true⟩) := by rw [List.map_set]; rfl
    have hMl : (L.set k ⟨tl, qla, false, true⟩).length = l.length := by simp [hLl]
    generalize L.set k ⟨tl, qla, false, true⟩ = M at *
    have hTl := toldS_len ⟨M, nu, dn⟩
    have htold := fun G np m h1 h2 => told_a ⟨M, nu, dn⟩ l.length np m G hMl hs h1 h2
    generalize toldS ⟨M, nu, dn⟩ = T at *
    replace fin := fin T
    obtain ⟨R, hR⟩ : ∃ R, R = Tk.av T := ⟨_, rfl⟩
    rw [← hR] at fin ⊢
    replace fin := Lib.hid (fin)
    have hTl2 : T.g.qs.length = l.length := by rw [hTl]; exact hMl
    have hkL : k < L.length := by omega
    have hLk' : (List.map Qu.av L)[k]? = some [AV.l 5 (List.map El.av tl), AV.c (.int .u64 qla), AV.c (.bool false), AV.c (.bool qen)] := by simp [hLk, Qu.av]
    clear hL hR hTl hT hLe
    obtain ⟨⟨Tq, Tn, Td⟩, Te, Tb⟩ := T
    simp only [boxG, rowsQ] at htold
    have h3T : (e.kd = 3) = True := by simp [h3]
    have h1F : (e.kd = 1) = False := by simp [h3]
    have h2F : (e.kd = 2) = False := by simp [h3]
    clear h3
    refine ACall_of' Try.func18 rfl (Ent_of Try.func18 (by kernel_rfl) rfl) (by simp [Try.ntmps18]) ?_; simp only [Try.ntmps18, Try.results18]
    simp only [Gt.av]
    repeat' (first
    | refine AW_seq_kn fun K hK => ?_
    | refine AW_block ?_
    | (refine does_call rfl rfl ?_; simp only [push_cast, reduceIte, nA, nB, nC, reduceCtorEq, nD, nE, nF, nG, iA, iB, iC, iD, *]; refine ACall.mono (hcop _) ?_; rintro _ _ ⟨m, hm, rfl, rfl⟩; simp only [upd_none2, ne_eq] at hm; (try simp only [push_cast, reduceIte, nA, nB, nC, reduceCtorEq, nD, nE, nF, nG, iA, iB, iC, iD, *]))
    | (refine does_call rfl rfl ?_; simp only [push_cast, reduceIte, nA, nB, nC, reduceCtorEq, nD, nE, nF, nG, iA, iB, iC, iD, *]; refine ACall.mono (htold _ _ m (by simp only [push_cast, reduceIte, nA, nB, nC, reduceCtorEq, nD, nE, nF, nG, iA, iB, iC, iD, *]) (by simp only [push_cast, reduceIte, nA, nB, nC, reduceCtorEq, nD, nE, nF, nG, iA, iB, iC, iD, *])) ?_; (rintro _ _ ⟨rfl, e2⟩; have e3 := e2.symm; clear e2; subst e3); (try simp only [push_cast, reduceIte, nA, nB, nC, reduceCtorEq, nD, nE, nF, nG, iA, iB, iC, iD, *]))
    | (refine does_call rfl rfl ?_; simp only [push_cast, reduceIte, nA, nB, nC, reduceCtorEq, nD, nE, nF, nG, iA, iB, iC, iD, *]; refine ACall.mono (open_p ⟨_, _, _, _⟩ _) ?_; (rintro _ _ ⟨rfl, e2⟩; have e3 := e2.symm; clear e2; subst e3); (try simp only [push_cast, reduceIte, nA, nB, nC, reduceCtorEq, nD, nE, nF, nG, iA, iB, iC, iD, *]))
    | (refine does_call rfl rfl ?_; simp only [push_cast, reduceIte, nA, nB, nC, reduceCtorEq, nD, nE, nF, nG, iA, iB, iC, iD, *]; refine ACall.mono (open_p _ _) ?_; (rintro _ _ ⟨rfl, e2⟩; have e3 := e2.symm; clear e2; subst e3); (try simp only [push_cast, reduceIte, nA, nB, nC, reduceCtorEq, nD, nE, nF, nG, iA, iB, iC, iD, *]))
    | (refine does_call rfl rfl ?_; simp only [push_cast, reduceIte, nA, nB, nC, reduceCtorEq, nD, nE, nF, nG, iA, iB, iC, iD, *]; refine ACall.mono (check15_p ⟨_, _, _⟩ (by assumption) _) ?_; (rintro _ _ ⟨rfl, e2⟩; have e3 := e2.symm; clear e2; subst e3); (try simp only [push_cast, reduceIte, nA, nB, nC, reduceCtorEq, nD, nE, nF, nG, iA, iB, iC, iD, *]))
    | (refine does_call rfl rfl ?_; simp only [push_cast, reduceIte, nA, nB, nC, reduceCtorEq, nD, nE, nF, nG, iA, iB, iC, iD, *]; refine ACall.mono (clone_p _ (by omega) _) ?_; (rintro _ _ ⟨rfl, e2⟩; have e3 := e2.symm; clear e2; subst e3); (try simp only [push_cast, reduceIte, nA, nB, nC, reduceCtorEq, nD, nE, nF, nG, iA, iB, iC, iD, *]))
    | ((first
      | refine AW_region_draw (id := 12) E1 (fun f => [].contains f) [(0, false, []), (1, true, []), (2, false, [1]), (3, false, []), (4, false, []), (5, false, [])] [[], [], [0], [0, 1, 2], [0, 1, 2, 3], [0, 1, 2, 3, 4]] mixed (by kernel_rfl) ?_
      | refine AW_region_draw (id := 18) E1 (fun f => [].contains f) [(0, false, []), (1, true, []), (2, false, []), (3, false, [1]), (4, false, []), (5, false, []), (6, false, [])] [[], [], [], [0], [0, 1, 3], [0, 1, 2, 3, 4], [0, 1, 2, 3, 4, 5]] mixed (by kernel_rfl) ?_
      | refine AW_region E1 ?_ | refine AW_ret ?_ | refine AW_exit ?_ | refine AW_skip ?_ | unfold retQ); try simp only [push_cast, reduceIte, nA, nB, nC, reduceCtorEq, nD, nE, nF, nG, iA, iB, iC, iD, *])
    | (apply AW_cond; (case hc => (simp only [push_cast, reduceIte, nA, nB, nC, reduceCtorEq, nD, nE, nF, nG, iA, iB, iC, iD]; rfl)); all_goals (intro hc; first | (exfalso; simp only [push_cast, reduceIte, nA, nB, nC, reduceCtorEq, nD, nE, nF, nG, iA, iB, iC, iD, *] at hc; done) | (exact absurd hc (by decide)) | (with_reducible (have hcc : true = true := hc); clear hcc hc) | (with_reducible (have hcc : false = false := hc); clear hcc hc) | ((try simp only [Bool.not_true, Bool.not_false] at hc); (first | (with_reducible (have hcc : true = true := hc); clear hcc hc) | (with_reducible (have hcc : false = false := hc); clear hcc hc) | (have hp := hc; (try simp only [decide_eq_true_eq, decide_eq_false_iff_not, bA, bB, bC, bD, bE, bF, bG, bH] at hp))))))
    | (refine Kn.go hK ?_; clear hK K)
    | refine Kn.go (by assumption) ?_
    | (intro n hn; (try simp only [upd_none2, join_none_iff, ite_none, ne_eq] at hn); (try simp only [push_cast, reduceIte, nA, nB, nC, reduceCtorEq, nD, nE, nF, nG, iA, iB, iC, iD, *]))
    | (intro hc)
    | (apply ER_blk; (case hp => rfl); (case hb => (simp only [push_cast, reduceIte, nA, nB, nC, reduceCtorEq, nD, nE, nF, nG, iA, iB, iC, iD]; rfl)); (case hd => (simp only [push_cast, reduceIte, nA, nB, nC, reduceCtorEq, nD, nE, nF, nG, iA, iB, iC, iD]; done)); (case h => (intro hc; simp only [push_cast, reduceIte, nA, nB, nC, reduceCtorEq, nD, nE, nF, nG, iA, iB, iC, iD, *]; rfl)); simp only [push_cast, reduceIte, nA, nB, nC, reduceCtorEq, nD, nE, nF, nG, iA, iB, iC, iD, *])
    | (apply ER_guard; (case hb => (simp only [push_cast, reduceIte, nA, nB, nC, reduceCtorEq, nD, nE, nF, nG, iA, iB, iC, iD]; rfl)); all_goals ((intro hc; first | (exfalso; simp only [push_cast, reduceIte, nA, nB, nC, reduceCtorEq, nD, nE, nF, nG, iA, iB, iC, iD, *] at hc; done) | (exact absurd hc (by decide)) | (with_reducible (have hcc : true = true := hc); clear hcc hc) | (with_reducible (have hcc : false = false := hc); clear hcc hc) | ((try simp only [Bool.not_true, Bool.not_false] at hc); (first | (with_reducible (have hcc : true = true := hc); clear hcc hc) | (with_reducible (have hcc : false = false := hc); clear hcc hc) | (have hp := hc; (try simp only [decide_eq_true_eq, decide_eq_false_iff_not, bA, bB, bC, bD, bE, bF, bG, bH] at hp))))) <;> try simp only [push_cast, reduceIte, nA, nB, nC, reduceCtorEq, nD, nE, nF, nG, iA, iB, iC, iD, *]))
    | fail)
    refine unhid fin m _ hTl2 hm.2.2.2 ?_ ?_ <;> (simp only [push_cast, reduceIte, nA, nB, nC, reduceCtorEq, nD, nE, nF, nG, iA, iB, iC, iD, *])
end Go.Proofs.Ytcmpciciodcddaa
