/- Walks: a copy of a net is changed. -/
import Derived.Test.YtiepahhneagjhaaF
namespace Go.Proofs.Ytiepahhneagjhaa
open Go.RowKit
open Nat renaming reduceEqDiff → nA, reduceLT → nB, reduceLeDiff → nC, reduceAdd → nD, reduceMul → nE, reduceSub → nF, reduceBEq → nG
open Int renaming reduceToNat → iA, reduceLT → iB, reduceLE → iC, reduceEq → iD
open Bool renaming and_eq_true → bA, or_eq_true → bB, or_eq_false_iff → bC, and_eq_false_iff → bD, not_eq_true' → bE, not_eq_false' → bF, not_true → bG, not_false → bH
set_option linter.all false
set_option maxHeartbeats 4000000
attribute [local irreducible] AW Does ACall tE tS tB tZ
def dLG0 : List En := [(0, false, []), (1, true, []), (2, false, []), (3, false, []), (4, false, []), (5, false, []), (6, false, []), (7, false, []), (8, false, []), (9, false, [1]), (10, false, []), (11, false, []), (12, false, [])]
def dAG0 : List (List Nat) := [[], [0], [], [], [3], [], [3, 4, 5], [3, 4, 5, 6], [3, 4, 5, 6, 7], [3, 4, 5, 6, 7, 8], [0, 1, 2, 3, 4, 5, 6, 7, 8, 9], [0, 1, 2, 3, 4, 5, 6, 7, 8, 9, 10], [0, 1, 2, 3, 4, 5, 6, 7, 8, 9, 10, 11]]
attribute [push_cast] dLG0

def zNt : Nt := ⟨0, []⟩
abbrev bxN (sent : Int) (x : AV) : Blk := .r 25 2 1 [[.c (.int .u64 sent), x]]
theorem upd_swap {H : Heap} {n m : Nat} {a b : Blk} (h : ¬ m = n) : upd (upd H n a) m b = upd (upd H m b) n a := by
  funext q
  simp only [upd]
  by_cases c1 : q = m
  · have : ¬ q = n := fun e => h (c1.symm.trans e)
    simp [c1, h]
  · simp [c1]
/-- how what lies beside is turned -/
structure Turns (H : Heap) (T : Heap → Heap) : Prop where
  u : ∀ G m k, Heap.le H G → G m = none → T (upd G m k) = upd (T G) m k
  l : ∀ A B, Heap.le A B → Heap.le (T A) (T B)
  n : ∀ G m, Heap.le H G → G m = none → T G m = none
theorem Turns.id (H : Heap) : Turns H (fun G => G) := ⟨fun _ _ _ _ _ => rfl, fun _ _ h => h, fun _ _ _ h => h⟩
theorem Turns.upd {H : Heap} {n : Nat} {k0 : Blk} (hn : H n = some k0) (k : Blk) : Turns H (fun G => Go.Proofs.Ytiepahhneagjhaa.upd G n k) := by
  have key : ∀ G m, Heap.le H G → G m = none → ¬ m = n := by
    rintro G m hG hm rfl
    rw [hG _ _ hn] at hm; cases hm
  refine ⟨fun G m k' hG hm => ?_, fun A B h => hle_upd2 h _ _, fun G m hG hm => ?_⟩
  · exact upd_swap (fun e => key G m hG hm e.symm)
  · rw [upd_ne (key G m hG hm)]; exact hm

theorem with_no (n : Nt) (hz : Sz n) (hok : nOk n = false) (gf : FuncId) (caps : List AV) (H : Heap) : ACall Try.prog 57 [.g (Nt.av n), .f (.func gf) [] caps] H fun r H' => r = .t [.g (Nt.av zNt), .c (.int .i64 380)] ∧ H' = H := by
  obtain ⟨sent, l⟩ := n
  have hl : l.length ≤ maxLen := by have := hz.l; simp only at this; unfold maxLen; omega
  have hch := check_p ⟨sent, l⟩ hl
  rw [hok] at hch
  simp only [Nt.av, Bool.false_eq_true, if_false] at hch
  refine ACall_of' Try.func57 rfl (Ent_of Try.func57 (by kernel_rfl) rfl) (by simp [Try.ntmps57]) ?_; simp only [Try.ntmps57, Try.results57]
  repeat' (first
    | refine AW_seq_kn fun K hK => ?_
    | refine AW_block ?_
    | (refine does_call rfl rfl ?_; simp only [push_cast, reduceIte, nA, nB, nC, reduceCtorEq, nD, nE, nF, nG, iA, iB, iC, iD, *]; refine ACall.mono (hch _) ?_; (rintro _ _ ⟨rfl, e2⟩; have e3 := e2.symm; clear e2; subst e3); (try simp only [push_cast, reduceIte, nA, nB, nC, reduceCtorEq, nD, nE, nF, nG, iA, iB, iC, iD, *]))
    | (refine does_call rfl rfl ?_; simp only [push_cast, reduceIte, nA, nB, nC, reduceCtorEq, nD, nE, nF, nG, iA, iB, iC, iD, *]; refine ACall.mono (check_p ⟨_, _⟩ (by assumption) _) ?_; (rintro _ _ ⟨rfl, e2⟩; have e3 := e2.symm; clear e2; subst e3); (try simp only [push_cast, reduceIte, nA, nB, nC, reduceCtorEq, nD, nE, nF, nG, iA, iB, iC, iD, *]))
    | ((first
      | refine AW_region_draw (id := 8) E1 (fun f => [].contains f) dLG0 dAG0 mixed (by kernel_rfl) ?_
      | refine AW_region E1 ?_ | refine AW_ret ?_ | refine AW_exit ?_ | refine AW_skip ?_ | unfold retQ); try simp only [push_cast, reduceIte, nA, nB, nC, reduceCtorEq, nD, nE, nF, nG, iA, iB, iC, iD, *])
    | (apply AW_cond; (case hc => (simp only [push_cast, reduceIte, nA, nB, nC, reduceCtorEq, nD, nE, nF, nG, iA, iB, iC, iD]; rfl)); all_goals (intro hc; first | (exfalso; simp only [push_cast, reduceIte, nA, nB, nC, reduceCtorEq, nD, nE, nF, nG, iA, iB, iC, iD, *] at hc; done) | (exact absurd hc (by decide)) | (with_reducible (have hcc : true = true := hc); clear hcc hc) | (with_reducible (have hcc : false = false := hc); clear hcc hc) | ((try simp only [Bool.not_true, Bool.not_false] at hc); (first | (with_reducible (have hcc : true = true := hc); clear hcc hc) | (with_reducible (have hcc : false = false := hc); clear hcc hc) | (have hp := hc; (try simp only [decide_eq_true_eq, decide_eq_false_iff_not, bA, bB, bC, bD, bE, bF, bG, bH] at hp))))))
    | (refine Kn.go hK ?_; clear hK K)
    | refine Kn.go (by assumption) ?_
    | (intro n hn; (try simp only [upd_none2, join_none_iff, ite_none, ne_eq] at hn); (try simp only [push_cast, reduceIte, nA, nB, nC, reduceCtorEq, nD, nE, nF, nG, iA, iB, iC, iD, *]))
    | (intro hc)
    | fail)
  refine ⟨.t [.g [.c (.int .u64 0), .l 4 []], .c (.int .i64 380)], H, Weak.imp ?_ (by (simp only [push_cast, reduceIte, nA, nB, nC, reduceCtorEq, nD, nE, nF, nG, iA, iB, iC, iD, *])), rfl, rfl⟩
  (intros; repeat (first | assumption | exact Imp.refl (Mem.le.refl _) _ | exact Imp.refl (by assumption) _ | exact Imp.nil_l _ | refine Imp.t ?_ | refine Imp.g ?_ | exact Imps.nil | refine Imps.cons ?_ (by intro hh; first | rfl | (cases hh; done)) ?_))
theorem with_a (sent : Int) (l : List Pk) (hz : Sz ⟨sent, l⟩) (hok : nOk ⟨sent, l⟩ = true) (gf : FuncId) (caps : List AV) (H : Heap) (e : Int) (n' : Nt) (T : Heap → Heap) (hT : Turns H T)
    (h0 : ¬ e = 0 → ∀ G x B nb, Heap.le H G → G nb = none → OwnL B x 34 4 (l.map Pk.av) (upd G nb (bxN sent x)) → ACall Try.prog gf ([.p nb 2 0 0] ++ caps) B fun r H' => r = .c (.int .i64 e) ∧ Heap.le G H')
    (h1 : e = 0 → ∀ G x B nb, Heap.le H G → G nb = none → OwnL B x 34 4 (l.map Pk.av) (upd G nb (bxN sent x)) → ACall Try.prog gf ([.p nb 2 0 0] ++ caps) B fun r H' => r = .c (.int .i64 0) ∧ ∃ x', OwnL H' x' 34 4 (n'.ps.map Pk.av) (upd (T G) nb (bxN n'.sent x'))) :
    ACall Try.prog 57 [.g (Nt.av ⟨sent, l⟩), .f (.func gf) [] caps] H fun r H' => r = .t [.g (Nt.av (if e = 0 then n' else zNt)), .c (.int .i64 e)] ∧ H' = if e = 0 then T H else H := by
  have hl : l.length ≤ 1000 := hz.l
  have hb : ∀ p ∈ l, p.bs.length ≤ 100000 := hz.b
  have hlm : l.length ≤ maxLen := by unfold maxLen; omega
  have hch := check_p ⟨sent, l⟩ hlm
  have hcl := pclone_o l (by omega)
  rw [hok] at hch
  simp only [Nt.av, if_true] at hch
  clear hz hok
  replace h0 := Lib.hid h0
  replace h1 := Lib.hid h1
  refine ACall_of' Try.func57 rfl (Ent_of Try.func57 (by kernel_rfl) rfl) (by simp [Try.ntmps57]) ?_; simp only [Try.ntmps57, Try.results57]
  repeat' (first
    | refine AW_seq_kn fun K hK => ?_
    | refine AW_block ?_
    | (refine does_call rfl rfl ?_; simp only [push_cast, reduceIte, nA, nB, nC, reduceCtorEq, nD, nE, nF, nG, iA, iB, iC, iD, *]; refine ACall.mono (hch _) ?_; (rintro _ _ ⟨rfl, e2⟩; have e3 := e2.symm; clear e2; subst e3); (try simp only [push_cast, reduceIte, nA, nB, nC, reduceCtorEq, nD, nE, nF, nG, iA, iB, iC, iD, *]))
    | (refine does_call rfl rfl ?_; simp only [push_cast, reduceIte, nA, nB, nC, reduceCtorEq, nD, nE, nF, nG, iA, iB, iC, iD, *]; refine ACall.mono (check_p ⟨_, _⟩ (by assumption) _) ?_; (rintro _ _ ⟨rfl, e2⟩; have e3 := e2.symm; clear e2; subst e3); (try simp only [push_cast, reduceIte, nA, nB, nC, reduceCtorEq, nD, nE, nF, nG, iA, iB, iC, iD, *]))
    | ((first
      | refine AW_region_draw (id := 8) E1 (fun f => [].contains f) dLG0 dAG0 mixed (by kernel_rfl) ?_
      | refine AW_region E1 ?_ | refine AW_ret ?_ | refine AW_exit ?_ | refine AW_skip ?_ | unfold retQ); try simp only [push_cast, reduceIte, nA, nB, nC, reduceCtorEq, nD, nE, nF, nG, iA, iB, iC, iD, *])
    | (apply AW_cond; (case hc => (simp only [push_cast, reduceIte, nA, nB, nC, reduceCtorEq, nD, nE, nF, nG, iA, iB, iC, iD]; rfl)); all_goals (intro hc; first | (exfalso; simp only [push_cast, reduceIte, nA, nB, nC, reduceCtorEq, nD, nE, nF, nG, iA, iB, iC, iD, *] at hc; done) | (exact absurd hc (by decide)) | (with_reducible (have hcc : true = true := hc); clear hcc hc) | (with_reducible (have hcc : false = false := hc); clear hcc hc) | ((try simp only [Bool.not_true, Bool.not_false] at hc); (first | (with_reducible (have hcc : true = true := hc); clear hcc hc) | (with_reducible (have hcc : false = false := hc); clear hcc hc) | (have hp := hc; (try simp only [decide_eq_true_eq, decide_eq_false_iff_not, bA, bB, bC, bD, bE, bF, bG, bH] at hp))))))
    | (refine Kn.go hK ?_; clear hK K)
    | refine Kn.go (by assumption) ?_
    | (intro n hn; (try simp only [upd_none2, join_none_iff, ite_none, ne_eq] at hn); (try simp only [push_cast, reduceIte, nA, nB, nC, reduceCtorEq, nD, nE, nF, nG, iA, iB, iC, iD, *]))
    | (intro hc)
    | fail)
  rename_i nb hnb
  generalize n = n4 at *
  refine does_call rfl rfl ?_
  simp only [push_cast, reduceIte, nA, nB, nC, reduceCtorEq, nD, nE, nF, nG, iA, iB, iC, iD, *]
  refine ACall.mono (hcl _) ?_
  intro x B0 hown0
  clear hch hcl
  obtain ⟨G, hG⟩ : ∃ G : Heap, G = upd H n4 (.r 25 2 1 [[.c (.int .u64 0), .c (.slice none 0 0)]]) := ⟨_, rfl⟩
  have h4 := hn.2
  have h4b : ¬ nb = n4 := hn.1.2
  have h4c : ¬ n4 = nb := hn.1.1
  have hGl : Heap.le H G := by rw [hG]; exact Heap.le_new (Heap.le_refl _) h4
  have hGb : G nb = none := by rw [hG, upd_ne h4b]; exact hnb
  have hG4 : G n4 = some (.r 25 2 1 [[.c (.int .u64 0), .c (.slice none 0 0)]]) := by rw [hG]; exact upd_same _ _ _
  have hTG : T G = upd (T H) n4 (.r 25 2 1 [[.c (.int .u64 0), .c (.slice none 0 0)]]) := by rw [hG]; exact hT.u H n4 _ (Heap.le_refl _) h4
  have hTb : T H nb = none := hT.n H nb (Heap.le_refl _) hnb
  have hT4 : T H n4 = none := hT.n H n4 (Heap.le_refl _) h4
  rw [upd_comm h4b, ← hG] at hown0
  have k1 := hown0.get (upd_same _ _ _)
  have k4 := hown0.get (m := n4) (by rw [upd_ne h4c]; exact hG4)
  have hcs := hown0.cs
  have hlv := hown0.len
  have hown1 := hown0.turn (upd_same _ _ _) (bxN sent x)
  rw [upd_upd] at hown1
  rw [List.length_map] at hlv
  replace hown1 := Lib.hid hown1
  clear hown0 hG hn
  (try simp only [push_cast, reduceIte, nA, nB, nC, reduceCtorEq, nD, nE, nF, nG, iA, iB, iC, iD, *])
  repeat' (first
    | refine AW_seq_kn fun K hK => ?_
    | refine AW_block ?_
    | (refine does_call rfl rfl ?_; simp only [push_cast, reduceIte, nA, nB, nC, reduceCtorEq, nD, nE, nF, nG, iA, iB, iC, iD, *]; refine ACall.mono (check_p ⟨_, _⟩ (by assumption) _) ?_; (rintro _ _ ⟨rfl, e2⟩; have e3 := e2.symm; clear e2; subst e3); (try simp only [push_cast, reduceIte, nA, nB, nC, reduceCtorEq, nD, nE, nF, nG, iA, iB, iC, iD, *]))
    | ((first
      | refine AW_region_draw (id := 8) E1 (fun f => [].contains f) dLG0 dAG0 mixed (by kernel_rfl) ?_
      | refine AW_region E1 ?_ | refine AW_ret ?_ | refine AW_exit ?_ | refine AW_skip ?_ | unfold retQ); try simp only [push_cast, reduceIte, nA, nB, nC, reduceCtorEq, nD, nE, nF, nG, iA, iB, iC, iD, *])
    | (apply AW_cond; (case hc => (simp only [push_cast, reduceIte, nA, nB, nC, reduceCtorEq, nD, nE, nF, nG, iA, iB, iC, iD]; rfl)); all_goals (intro hc; first | (exfalso; simp only [push_cast, reduceIte, nA, nB, nC, reduceCtorEq, nD, nE, nF, nG, iA, iB, iC, iD, *] at hc; done) | (exact absurd hc (by decide)) | (with_reducible (have hcc : true = true := hc); clear hcc hc) | (with_reducible (have hcc : false = false := hc); clear hcc hc) | ((try simp only [Bool.not_true, Bool.not_false] at hc); (first | (with_reducible (have hcc : true = true := hc); clear hcc hc) | (with_reducible (have hcc : false = false := hc); clear hcc hc) | (have hp := hc; (try simp only [decide_eq_true_eq, decide_eq_false_iff_not, bA, bB, bC, bD, bE, bF, bG, bH] at hp))))))
    | (refine Kn.go hK ?_; clear hK K)
    | refine Kn.go (by assumption) ?_
    | (intro n hn; (try simp only [upd_none2, join_none_iff, ite_none, ne_eq] at hn); (try simp only [push_cast, reduceIte, nA, nB, nC, reduceCtorEq, nD, nE, nF, nG, iA, iB, iC, iD, *]))
    | (intro hc)
    | fail)
  generalize hB1 : upd B0 nb (.r 25 2 1 [[.c (.int .u64 sent), x]]) = B1 at *
  have k1' : B1 nb = some (.r 25 2 1 [[.c (.int .u64 sent), x]]) := by rw [← hB1]; exact upd_same _ _ _
  clear hB1 k1 k4
  refine AW_loopN l.length (fun _ => True) (fun k => [(1, .f (.func gf) [] caps), (2, .p nb 2 0 0), (4, .p n4 2 0 0), (21, ci l.length), (22, ci k)]) (fun _ => B1) trivial ?_ ?_ ?_ ?_
  · (first | trivial | (simp only [push_cast, reduceIte, nA, nB, nC, reduceCtorEq, nD, nE, nF, nG, iA, iB, iC, iD, *]; done))
  · exact Heap.le_refl _
  · intro k hk _
    have hz := List.getElem?_eq_getElem (l := l) hk; generalize l[k] = z at hz; have hzm := List.mem_of_getElem? hz; have hkl : (k : Int) < l.length := (by omega); have hkw : IntKind.i64.wrap ((k : Int) + 1) = (k : Int) + 1 := wrap_i64 (by omega) (by omega)
    have hzb := hb z hzm
    have htk : List.take 4 (Pk.av z) = Pk.av z := rfl
    have hcz := bclone_p z.bs (by omega)
    rcases (unhid hown1).split with ⟨ad, rfl, e0, rfl⟩ | ⟨m, cap, rfl, e1, hm⟩
    · rw [List.map_eq_nil_iff.1 e0] at hk; simp at hk
    rw [List.length_map] at *
    have hmb : ¬ m = nb := by rintro rfl; rw [upd_same] at hm; cases hm
    have hbm : ¬ nb = m := fun h => hmb h.symm
    have k2 : B1 m = some (.r 34 4 cap (l.map Pk.av)) := by rw [e1]; exact upd_same _ _ _
    have hset : (l.map Pk.av).set k [.c (.int .u64 z.num), .c (.int .i64 z.fr), .c (.int .i64 z.to), .l 1 (z.bs.map by1)] = l.map Pk.av := by
      have : (l.map Pk.av)[k]? = some (Pk.av z) := by rw [List.getElem?_map, hz]; rfl
      obtain ⟨q1, q2⟩ := List.getElem?_eq_some_iff.1 this
      rw [show [AV.c (Value.int IntKind.u64 z.num), AV.c (Value.int IntKind.i64 z.fr), AV.c (Value.int IntKind.i64 z.to), AV.l 1 (z.bs.map by1)] = Pk.av z from rfl, ← q2]
      exact List.set_getElem_self q1
    have hself := upd_self k2
    clear e1 hm hown1 hb h0 h1 hTG
    repeat' (first
    | refine AW_seq_kn fun K hK => ?_
    | refine AW_block ?_
    | (refine does_call rfl rfl ?_; simp only [push_cast, reduceIte, nA, nB, nC, reduceCtorEq, nD, nE, nF, nG, iA, iB, iC, iD, *]; refine ACall.mono (hcz _) ?_; (rintro _ _ ⟨rfl, e2⟩; have e3 := e2.symm; clear e2; subst e3); (try simp only [push_cast, reduceIte, nA, nB, nC, reduceCtorEq, nD, nE, nF, nG, iA, iB, iC, iD, *]))
    | (refine does_call rfl rfl ?_; simp only [push_cast, reduceIte, nA, nB, nC, reduceCtorEq, nD, nE, nF, nG, iA, iB, iC, iD, *]; refine ACall.mono (check_p ⟨_, _⟩ (by assumption) _) ?_; (rintro _ _ ⟨rfl, e2⟩; have e3 := e2.symm; clear e2; subst e3); (try simp only [push_cast, reduceIte, nA, nB, nC, reduceCtorEq, nD, nE, nF, nG, iA, iB, iC, iD, *]))
    | ((first
      | refine AW_region_draw (id := 8) E1 (fun f => [].contains f) dLG0 dAG0 mixed (by kernel_rfl) ?_
      | refine AW_region E1 ?_ | refine AW_ret ?_ | refine AW_exit ?_ | refine AW_skip ?_ | unfold retQ); try simp only [push_cast, reduceIte, nA, nB, nC, reduceCtorEq, nD, nE, nF, nG, iA, iB, iC, iD, *])
    | (apply AW_cond; (case hc => (simp only [push_cast, reduceIte, nA, nB, nC, reduceCtorEq, nD, nE, nF, nG, iA, iB, iC, iD]; rfl)); all_goals (intro hc; first | (exfalso; simp only [push_cast, reduceIte, nA, nB, nC, reduceCtorEq, nD, nE, nF, nG, iA, iB, iC, iD, *] at hc; done) | (exact absurd hc (by decide)) | (with_reducible (have hcc : true = true := hc); clear hcc hc) | (with_reducible (have hcc : false = false := hc); clear hcc hc) | ((try simp only [Bool.not_true, Bool.not_false] at hc); (first | (with_reducible (have hcc : true = true := hc); clear hcc hc) | (with_reducible (have hcc : false = false := hc); clear hcc hc) | (have hp := hc; (try simp only [decide_eq_true_eq, decide_eq_false_iff_not, bA, bB, bC, bD, bE, bF, bG, bH] at hp))))))
    | (refine Kn.go hK ?_; clear hK K)
    | refine Kn.go (by assumption) ?_
    | (intro n hn; (try simp only [upd_none2, join_none_iff, ite_none, ne_eq] at hn); (try simp only [push_cast, reduceIte, nA, nB, nC, reduceCtorEq, nD, nE, nF, nG, iA, iB, iC, iD, *]))
    | (intro hc)
    | fail)
    exact ⟨trivial, trivial, trivial⟩
  · intro _
    by_cases he : e = 0
    · subst he
      have hd := unhid h1 rfl G x B1 nb hGl hGb (unhid hown1)
      simp only [if_true]
      clear h0 h1
      repeat' (first
    | refine AW_seq_kn fun K hK => ?_
    | refine AW_block ?_
    | (refine does_call rfl rfl ?_; simp only [push_cast, reduceIte, nA, nB, nC, reduceCtorEq, nD, nE, nF, nG, iA, iB, iC, iD, *]; refine ACall.mono (check_p ⟨_, _⟩ (by assumption) _) ?_; (rintro _ _ ⟨rfl, e2⟩; have e3 := e2.symm; clear e2; subst e3); (try simp only [push_cast, reduceIte, nA, nB, nC, reduceCtorEq, nD, nE, nF, nG, iA, iB, iC, iD, *]))
    | ((first
      | refine AW_region_draw (id := 8) E1 (fun f => [].contains f) dLG0 dAG0 mixed (by kernel_rfl) ?_
      | refine AW_region E1 ?_ | refine AW_ret ?_ | refine AW_exit ?_ | refine AW_skip ?_ | unfold retQ); try simp only [push_cast, reduceIte, nA, nB, nC, reduceCtorEq, nD, nE, nF, nG, iA, iB, iC, iD, *])
    | (apply AW_cond; (case hc => (simp only [push_cast, reduceIte, nA, nB, nC, reduceCtorEq, nD, nE, nF, nG, iA, iB, iC, iD]; rfl)); all_goals (intro hc; first | (exfalso; simp only [push_cast, reduceIte, nA, nB, nC, reduceCtorEq, nD, nE, nF, nG, iA, iB, iC, iD, *] at hc; done) | (exact absurd hc (by decide)) | (with_reducible (have hcc : true = true := hc); clear hcc hc) | (with_reducible (have hcc : false = false := hc); clear hcc hc) | ((try simp only [Bool.not_true, Bool.not_false] at hc); (first | (with_reducible (have hcc : true = true := hc); clear hcc hc) | (with_reducible (have hcc : false = false := hc); clear hcc hc) | (have hp := hc; (try simp only [decide_eq_true_eq, decide_eq_false_iff_not, bA, bB, bC, bD, bE, bF, bG, bH] at hp))))))
    | (refine Kn.go hK ?_; clear hK K)
    | refine Kn.go (by assumption) ?_
    | (intro n hn; (try simp only [upd_none2, join_none_iff, ite_none, ne_eq] at hn); (try simp only [push_cast, reduceIte, nA, nB, nC, reduceCtorEq, nD, nE, nF, nG, iA, iB, iC, iD, *]))
    | (intro hc)
    | fail)
      refine does_call_f rfl (by simp only [push_cast, reduceIte, nA, nB, nC, reduceCtorEq, nD, nE, nF, nG, iA, iB, iC, iD]; rfl) ?_
      simp only [push_cast, reduceIte, nA, nB, nC, reduceCtorEq, nD, nE, nF, nG, iA, iB, iC, iD, *]
      refine ACall.mono hd ?_
      rintro _ H2 ⟨rfl, x', hown2⟩
      rw [hTG] at hown2
      have hT1 : ¬ n4 = nb := h4c
      have j1 := hown2.get (upd_same _ _ _)
      have j4 := hown2.get (m := n4) (by rw [upd_ne h4c]; exact upd_same _ _ _)
      have hcs2 := hown2.cs
      have hown3 := hown2.turn (m := n4) (by rw [upd_ne h4c]; exact upd_same _ _ _) (bxN n'.sent x')
      clear hown2 hown1 hd k1' hcs hlv
      replace hown3 := Lib.hid hown3
      (try simp only [push_cast, reduceIte, nA, nB, nC, reduceCtorEq, nD, nE, nF, nG, iA, iB, iC, iD, *])
      repeat' (first
    | refine AW_seq_kn fun K hK => ?_
    | refine AW_block ?_
    | (refine does_call rfl rfl ?_; simp only [push_cast, reduceIte, nA, nB, nC, reduceCtorEq, nD, nE, nF, nG, iA, iB, iC, iD, *]; refine ACall.mono (check_p ⟨_, _⟩ (by assumption) _) ?_; (rintro _ _ ⟨rfl, e2⟩; have e3 := e2.symm; clear e2; subst e3); (try simp only [push_cast, reduceIte, nA, nB, nC, reduceCtorEq, nD, nE, nF, nG, iA, iB, iC, iD, *]))
    | ((first
      | refine AW_region_draw (id := 8) E1 (fun f => [].contains f) dLG0 dAG0 mixed (by kernel_rfl) ?_
      | refine AW_region E1 ?_ | refine AW_ret ?_ | refine AW_exit ?_ | refine AW_skip ?_ | unfold retQ); try simp only [push_cast, reduceIte, nA, nB, nC, reduceCtorEq, nD, nE, nF, nG, iA, iB, iC, iD, *])
    | (apply AW_cond; (case hc => (simp only [push_cast, reduceIte, nA, nB, nC, reduceCtorEq, nD, nE, nF, nG, iA, iB, iC, iD]; rfl)); all_goals (intro hc; first | (exfalso; simp only [push_cast, reduceIte, nA, nB, nC, reduceCtorEq, nD, nE, nF, nG, iA, iB, iC, iD, *] at hc; done) | (exact absurd hc (by decide)) | (with_reducible (have hcc : true = true := hc); clear hcc hc) | (with_reducible (have hcc : false = false := hc); clear hcc hc) | ((try simp only [Bool.not_true, Bool.not_false] at hc); (first | (with_reducible (have hcc : true = true := hc); clear hcc hc) | (with_reducible (have hcc : false = false := hc); clear hcc hc) | (have hp := hc; (try simp only [decide_eq_true_eq, decide_eq_false_iff_not, bA, bB, bC, bD, bE, bF, bG, bH] at hp))))))
    | (refine Kn.go hK ?_; clear hK K)
    | refine Kn.go (by assumption) ?_
    | (intro n hn; (try simp only [upd_none2, join_none_iff, ite_none, ne_eq] at hn); (try simp only [push_cast, reduceIte, nA, nB, nC, reduceCtorEq, nD, nE, nF, nG, iA, iB, iC, iD, *]))
    | (intro hc)
    | fail)
      refine ⟨_, T H, ((unhid hown3).weak (r' := .t [.g (Nt.av n'), .c (.int .i64 0)]) (fun F F' hF hi ho => Imp.t (Imps.cons (Imp.g (Imps.cons (Imp.refl hF _) id (Imps.cons hi (fun _ => rfl) Imps.nil))) (fun h => (by cases h)) (Imps.cons (Imp.refl hF _) id Imps.nil)))).trans (Weak.less ?_), rfl, rfl⟩
      intro q b hq
      have c3 : ¬ q = nb := by rintro rfl; rw [hTb] at hq; cases hq
      have c2 : ¬ q = n4 := by rintro rfl; rw [hT4] at hq; cases hq
      simp only [upd_get, c2, c3, if_false]
      exact hq
    · have hd := unhid h0 he G x B1 nb hGl hGb (unhid hown1)
      simp only [he, if_false]
      clear h0 h1 hTG
      repeat' (first
    | refine AW_seq_kn fun K hK => ?_
    | refine AW_block ?_
    | (refine does_call rfl rfl ?_; simp only [push_cast, reduceIte, nA, nB, nC, reduceCtorEq, nD, nE, nF, nG, iA, iB, iC, iD, *]; refine ACall.mono (check_p ⟨_, _⟩ (by assumption) _) ?_; (rintro _ _ ⟨rfl, e2⟩; have e3 := e2.symm; clear e2; subst e3); (try simp only [push_cast, reduceIte, nA, nB, nC, reduceCtorEq, nD, nE, nF, nG, iA, iB, iC, iD, *]))
    | ((first
      | refine AW_region_draw (id := 8) E1 (fun f => [].contains f) dLG0 dAG0 mixed (by kernel_rfl) ?_
      | refine AW_region E1 ?_ | refine AW_ret ?_ | refine AW_exit ?_ | refine AW_skip ?_ | unfold retQ); try simp only [push_cast, reduceIte, nA, nB, nC, reduceCtorEq, nD, nE, nF, nG, iA, iB, iC, iD, *])
    | (apply AW_cond; (case hc => (simp only [push_cast, reduceIte, nA, nB, nC, reduceCtorEq, nD, nE, nF, nG, iA, iB, iC, iD]; rfl)); all_goals (intro hc; first | (exfalso; simp only [push_cast, reduceIte, nA, nB, nC, reduceCtorEq, nD, nE, nF, nG, iA, iB, iC, iD, *] at hc; done) | (exact absurd hc (by decide)) | (with_reducible (have hcc : true = true := hc); clear hcc hc) | (with_reducible (have hcc : false = false := hc); clear hcc hc) | ((try simp only [Bool.not_true, Bool.not_false] at hc); (first | (with_reducible (have hcc : true = true := hc); clear hcc hc) | (with_reducible (have hcc : false = false := hc); clear hcc hc) | (have hp := hc; (try simp only [decide_eq_true_eq, decide_eq_false_iff_not, bA, bB, bC, bD, bE, bF, bG, bH] at hp))))))
    | (refine Kn.go hK ?_; clear hK K)
    | refine Kn.go (by assumption) ?_
    | (intro n hn; (try simp only [upd_none2, join_none_iff, ite_none, ne_eq] at hn); (try simp only [push_cast, reduceIte, nA, nB, nC, reduceCtorEq, nD, nE, nF, nG, iA, iB, iC, iD, *]))
    | (intro hc)
    | fail)
      refine does_call_f rfl (by simp only [push_cast, reduceIte, nA, nB, nC, reduceCtorEq, nD, nE, nF, nG, iA, iB, iC, iD]; rfl) ?_
      simp only [push_cast, reduceIte, nA, nB, nC, reduceCtorEq, nD, nE, nF, nG, iA, iB, iC, iD, *]
      refine ACall.mono hd ?_
      rintro _ H2 ⟨rfl, hle2⟩
      have j4 := hle2 _ _ hG4
      clear hown1 hd k1' hcs hlv
      (try simp only [push_cast, reduceIte, nA, nB, nC, reduceCtorEq, nD, nE, nF, nG, iA, iB, iC, iD, *])
      repeat' (first
    | refine AW_seq_kn fun K hK => ?_
    | refine AW_block ?_
    | (refine does_call rfl rfl ?_; simp only [push_cast, reduceIte, nA, nB, nC, reduceCtorEq, nD, nE, nF, nG, iA, iB, iC, iD, *]; refine ACall.mono (check_p ⟨_, _⟩ (by assumption) _) ?_; (rintro _ _ ⟨rfl, e2⟩; have e3 := e2.symm; clear e2; subst e3); (try simp only [push_cast, reduceIte, nA, nB, nC, reduceCtorEq, nD, nE, nF, nG, iA, iB, iC, iD, *]))
    | ((first
      | refine AW_region_draw (id := 8) E1 (fun f => [].contains f) dLG0 dAG0 mixed (by kernel_rfl) ?_
      | refine AW_region E1 ?_ | refine AW_ret ?_ | refine AW_exit ?_ | refine AW_skip ?_ | unfold retQ); try simp only [push_cast, reduceIte, nA, nB, nC, reduceCtorEq, nD, nE, nF, nG, iA, iB, iC, iD, *])
    | (apply AW_cond; (case hc => (simp only [push_cast, reduceIte, nA, nB, nC, reduceCtorEq, nD, nE, nF, nG, iA, iB, iC, iD]; rfl)); all_goals (intro hc; first | (exfalso; simp only [push_cast, reduceIte, nA, nB, nC, reduceCtorEq, nD, nE, nF, nG, iA, iB, iC, iD, *] at hc; done) | (exact absurd hc (by decide)) | (with_reducible (have hcc : true = true := hc); clear hcc hc) | (with_reducible (have hcc : false = false := hc); clear hcc hc) | ((try simp only [Bool.not_true, Bool.not_false] at hc); (first | (with_reducible (have hcc : true = true := hc); clear hcc hc) | (with_reducible (have hcc : false = false := hc); clear hcc hc) | (have hp := hc; (try simp only [decide_eq_true_eq, decide_eq_false_iff_not, bA, bB, bC, bD, bE, bF, bG, bH] at hp))))))
    | (refine Kn.go hK ?_; clear hK K)
    | refine Kn.go (by assumption) ?_
    | (intro n hn; (try simp only [upd_none2, join_none_iff, ite_none, ne_eq] at hn); (try simp only [push_cast, reduceIte, nA, nB, nC, reduceCtorEq, nD, nE, nF, nG, iA, iB, iC, iD, *]))
    | (intro hc)
    | fail)
      refine ⟨.t [.g (Nt.av zNt), .c (.int .i64 e)], H, Weak.imp ?_ ?_, rfl, rfl⟩
      · (intros; repeat (first | assumption | exact Imp.refl (Mem.le.refl _) _ | exact Imp.refl (by assumption) _ | exact Imp.nil_l _ | refine Imp.t ?_ | refine Imp.g ?_ | exact Imps.nil | refine Imps.cons ?_ (by intro hh; first | rfl | (cases hh; done)) ?_))
      · intro q b hq
        have c2 : ¬ q = n4 := by rintro rfl; rw [h4] at hq; cases hq
        simp only [upd_get, c2, if_false]
        exact hle2 _ _ (hGl _ _ hq)
end Go.Proofs.Ytiepahhneagjhaa
