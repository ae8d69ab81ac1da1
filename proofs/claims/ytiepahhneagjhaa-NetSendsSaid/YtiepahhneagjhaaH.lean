/- Walks: a parcel is sent. -/
import Derived.Test.YtiepahhneagjhaaG
namespace Go.Proofs.Ytiepahhneagjhaa
open Go.RowKit
open Nat renaming reduceEqDiff → nA, reduceLT → nB, reduceLeDiff → nC, reduceAdd → nD, reduceMul → nE, reduceSub → nF, reduceBEq → nG
open Int renaming reduceToNat → iA, reduceLT → iB, reduceLE → iC, reduceEq → iD
open Bool renaming and_eq_true → bA, or_eq_true → bB, or_eq_false_iff → bC, and_eq_false_iff → bD, not_eq_true' → bE, not_eq_false' → bF, not_true → bG, not_false → bH
set_option linter.all false
set_option maxHeartbeats 4000000
attribute [local irreducible] AW Does ACall tE tS tB tZ
def dLH0 : List En := [(0, false, []), (1, false, []), (2, false, []), (3, false, []), (4, true, []), (5, false, []), (6, false, []), (7, false, []), (8, true, []), (9, true, []), (10, true, []), (11, false, []), (12, false, [4, 8, 9, 10]), (13, false, []), (14, false, []), (15, false, []), (16, false, []), (17, false, []), (18, false, [])]
def dAH0 : List (List Nat) := [[], [], [1], [1, 2], [1, 2, 3], [], [5], [5, 6], [5, 6, 7], [], [], [], [11], [5, 6, 7, 8, 9, 10, 11, 12], [5, 6, 7, 8, 9, 10, 11, 12, 13], [1, 2, 3, 4, 5, 6, 7, 8, 9, 10, 11, 12, 13, 14], [0, 1, 2, 3, 4, 5, 6, 7, 8, 9, 10, 11, 12, 13, 14, 15], [0, 1, 2, 3, 4, 5, 6, 7, 8, 9, 10, 11, 12, 13, 14, 15, 16], [0, 1, 2, 3, 4, 5, 6, 7, 8, 9, 10, 11, 12, 13, 14, 15, 16, 17]]
attribute [push_cast] dLH0
def dLH1 : List En := [(0, false, []), (1, false, []), (2, true, []), (3, false, []), (4, false, [2]), (5, false, []), (6, false, [])]
def dAH1 : List (List Nat) := [[], [], [1], [], [0], [0, 1, 2, 4], [0, 1, 2, 3, 4, 5]]
attribute [push_cast] dLH1

/-- bytes that can be read -/
structure Rd (H : Heap) (x : AV) (b : List Int) : Prop where
  lent : Lent H x (.l 1 (b.map by1))
  len : lenV x = some b.length
  cs : x.cs = some [x]
  one : x.one = true
theorem Rd.mono {H G : Heap} {x : AV} {b : List Int} (h : Rd H x b) (hl : Heap.le H G) : Rd G x b := ⟨h.lent.mono hl, h.len, h.cs, h.one⟩
theorem Rd.l (H : Heap) (b : List Int) : Rd H (.l 1 (b.map by1)) b := ⟨Lent.refl _ _, by simp [lenV], rfl, rfl⟩
theorem Rd.own {H H0 : Heap} {x : AV} {ty : TypeId} {b : List Int} (h : OwnL H x ty 1 (b.map by1) H0) : Rd H x b := ⟨h.lent, by rw [h.len, List.length_map], h.cs, h.one⟩
theorem flat_by1 (b : List Int) : FlatR (b.map by1) := FlatR.map b (fun x y hy => by
  simp only [by1, List.mem_singleton] at hy; subst hy; exact Flat.c _)
theorem bclone_rd {H : Heap} {x : AV} {b : List Int} (h : Rd H x b) (hl : b.length ≤ 1000000) : ACall Try.prog 60 [x] H fun r H' => r = .l 1 (b.map by1) ∧ H' = H :=
  ACall.weak ((ACall.lendO (flat_by1 b) (Lents.one h.lent) (bclone_o b hl _)).mono fun r H' ho => ⟨_, _, ho.weak (fun F F' hF hi _ => hi), rfl, rfl⟩)
def sendF (n : Nt) (fr to : Int) (b : List Int) : Int := if (!nodeOk fr || !nodeOk to || decide (fr = to)) = true then 2 else if 30000 < (b.length : Int) then 3 else if (60 ≤ (n.ps.length : Int)) ∨ n.sent = 4611686018427387904 then 6 else 0
def sendA (n : Nt) (fr to : Int) (b : List Int) : Nt := ⟨n.sent + 1, n.ps ++ [⟨n.sent + 1, fr, to, b⟩]⟩
def sendE (n : Nt) (fr to : Int) (b : List Int) : Int := if nOk n = true then sendF n fr to b else 380
def sendS (n : Nt) (fr to : Int) (b : List Int) : Nt := if sendE n fr to b = 0 then sendA n fr to b else zNt
theorem send1_a (sent : Int) (l : List Pk) (hl : l.length ≤ 1000) (hs0 : 0 ≤ sent) (hs : sent ≤ 4611686018427387904) (fr to : Int) (b : List Int) (hb : b.length ≤ 1000000) (G : Heap) (q1 q2 q3 : Nat) (xb : AV) (r1 : G q1 = some (.r 3 1 1 [[.c (.int .i64 fr)]])) (r2 : G q2 = some (.r 3 1 1 [[.c (.int .i64 to)]])) (r3 : G q3 = some (.r 32 1 1 [[xb]])) (hr : Rd G xb b)
    (x : AV) (B : Heap) (nb : Nat) (hnb : G nb = none) (hown : OwnL B x 34 4 (l.map Pk.av) (upd G nb (bxN sent x))) :
    ACall Try.prog 97 [.p nb 2 0 0, .p q1 1 0 0, .p q2 1 0 0, .p q3 1 0 0] B fun r H' => r = .c (.int .i64 (sendF ⟨sent, l⟩ fr to b)) ∧ ((¬ sendF ⟨sent, l⟩ fr to b = 0 → Heap.le G H') ∧ (sendF ⟨sent, l⟩ fr to b = 0 → ∃ x', OwnL H' x' 34 4 ((sendA ⟨sent, l⟩ fr to b).ps.map Pk.av) (upd G nb (bxN (sendA ⟨sent, l⟩ fr to b).sent x')))) := by
  have hGB : Heap.le G B := Heap.le_trans (le_upd_new hnb) hown.le
  have k0 := hown.get (upd_same _ _ _)
  have k1 := hGB _ _ r1
  have k2 := hGB _ _ r2
  have k3 := hGB _ _ r3
  have ne1 : ¬ q1 = nb := by rintro rfl; rw [r1] at hnb; cases hnb
  have ne2 : ¬ q2 = nb := by rintro rfl; rw [r2] at hnb; cases hnb
  have ne3 : ¬ q3 = nb := by rintro rfl; rw [r3] at hnb; cases hnb
  have hcs := hown.cs
  have hlv := hown.len
  rw [List.length_map] at hlv
  have hle2 : Heap.le G (upd B nb (bxN (sent + 1) x)) := fun m k hm => by
    rw [upd_ne (by rintro rfl; rw [hnb] at hm; cases hm)]; exact hGB _ _ hm
  have hclo := bclone_rd (hr.mono hle2) hb
  have hown2 := hown.turn (upd_same _ _ _) (bxN (sent + 1) x)
  rw [upd_upd] at hown2
  have hrl := hr.len
  have hrc := hr.cs
  have hE : sendF ⟨sent, l⟩ fr to b = if (!nodeOk fr || !nodeOk to || decide (fr = to)) = true then 2 else if 30000 < (b.length : Int) then 3 else if (60 ≤ (l.length : Int)) ∨ sent = 4611686018427387904 then 6 else 0 := rfl
  have hne := ne_old k0
  have hsw : IntKind.u64.wrap (sent + 1) = sent + 1 := wrap_u64 (by omega) (by omega)
  obtain ⟨E, hEE⟩ : ∃ E, E = sendF ⟨sent, l⟩ fr to b := ⟨_, rfl⟩
  rw [← hEE]
  rw [← hEE] at hE
  clear hEE r1 r2 r3
  replace hE := Lib.hid hE
  replace hown := Lib.hid hown
  replace hGB := Lib.hid hGB
  clear hr hle2
  replace hown2 := Lib.hid hown2
  refine ACall_of' Try.func97 rfl (Ent_of Try.func97 (by kernel_rfl) rfl) (by simp [Try.ntmps97]) ?_; simp only [Try.ntmps97, Try.results97]
  repeat' (first
    | refine AW_seq_kn fun K hK => ?_
    | refine AW_block ?_
    | ((first
      | refine AW_region_draw (id := 8) E1 (fun f => [].contains f) dLH0 dAH0 mixed (by kernel_rfl) ?_
      | refine AW_region E1 ?_ | refine AW_ret ?_ | refine AW_exit ?_ | refine AW_skip ?_ | unfold retQ); try simp only [push_cast, reduceIte, nA, nB, nC, reduceCtorEq, nD, nE, nF, nG, iA, iB, iC, iD, *])
    | (apply AW_cond; (case hc => (simp only [push_cast, reduceIte, nA, nB, nC, reduceCtorEq, nD, nE, nF, nG, iA, iB, iC, iD]; rfl)); all_goals (intro hc; first | (exfalso; simp only [push_cast, reduceIte, nA, nB, nC, reduceCtorEq, nD, nE, nF, nG, iA, iB, iC, iD, *] at hc; done) | (exact absurd hc (by decide)) | (with_reducible (have hcc : true = true := hc); clear hcc hc) | (with_reducible (have hcc : false = false := hc); clear hcc hc) | ((try simp only [Bool.not_true, Bool.not_false] at hc); (first | (with_reducible (have hcc : true = true := hc); clear hcc hc) | (with_reducible (have hcc : false = false := hc); clear hcc hc) | (have hp := hc; (try simp only [decide_eq_true_eq, decide_eq_false_iff_not, bA, bB, bC, bD, bE, bF, bG, bH] at hp))))))
    | (refine Kn.go hK ?_; clear hK K)
    | refine Kn.go (by assumption) ?_
    | (intro n hn; (try simp only [upd_none2, join_none_iff, ite_none, ne_eq] at hn); (try simp only [push_cast, reduceIte, nA, nB, nC, reduceCtorEq, nD, nE, nF, nG, iA, iB, iC, iD, *]))
    | (intro hc)
    | (apply ER_blk; (case hp => rfl); (case hb => (simp only [push_cast, reduceIte, nA, nB, nC, reduceCtorEq, nD, nE, nF, nG, iA, iB, iC, iD]; rfl)); (case hd => (simp only [push_cast, reduceIte, nA, nB, nC, reduceCtorEq, nD, nE, nF, nG, iA, iB, iC, iD]; done)); (case h => (intro hc; simp only [push_cast, reduceIte, nA, nB, nC, reduceCtorEq, nD, nE, nF, nG, iA, iB, iC, iD, *]; rfl)); simp only [push_cast, reduceIte, nA, nB, nC, reduceCtorEq, nD, nE, nF, nG, iA, iB, iC, iD, *])
    | (apply ER_guard; (case hb => (simp only [push_cast, reduceIte, nA, nB, nC, reduceCtorEq, nD, nE, nF, nG, iA, iB, iC, iD]; rfl)); all_goals ((intro hc; first | (exfalso; simp only [push_cast, reduceIte, nA, nB, nC, reduceCtorEq, nD, nE, nF, nG, iA, iB, iC, iD, *] at hc; done) | (exact absurd hc (by decide)) | (with_reducible (have hcc : true = true := hc); clear hcc hc) | (with_reducible (have hcc : false = false := hc); clear hcc hc) | ((try simp only [Bool.not_true, Bool.not_false] at hc); (first | (with_reducible (have hcc : true = true := hc); clear hcc hc) | (with_reducible (have hcc : false = false := hc); clear hcc hc) | (have hp := hc; (try simp only [decide_eq_true_eq, decide_eq_false_iff_not, bA, bB, bC, bD, bE, bF, bG, bH] at hp))))) <;> try simp only [push_cast, reduceIte, nA, nB, nC, reduceCtorEq, nD, nE, nF, nG, iA, iB, iC, iD, *]))
    | fail)
  · have h2 : E = 2 := by rw [unhid hE, if_pos hc]
    subst h2
    exact ⟨_, _, Weak.refl _ _, rfl, fun _ => unhid hGB, fun h => by cases h⟩
  · rename_i hc1 hp1
    have h2 : E = 3 := by rw [unhid hE, if_neg (by rw [hc1]; decide), if_pos hp]
    subst h2
    exact ⟨_, _, Weak.refl _ _, rfl, fun _ => unhid hGB, fun h => by cases h⟩
  · rename_i hc1 hp1 hc2 hp2
    have h2 : E = 6 := by rw [unhid hE, if_neg (by rw [hc1]; decide), if_neg hp2, if_pos hp]
    subst h2
    exact ⟨_, _, Weak.refl _ _, rfl, fun _ => unhid hGB, fun h => by cases h⟩
  · rename_i hc1 hp1 hc2 hp2
    have h2 : E = 0 := by rw [unhid hE, if_neg (by rw [hc1]; decide), if_neg hp2, if_neg (by simpa using hp)]
    subst h2
    refine does_call rfl rfl ?_
    simp only [push_cast, reduceIte, nA, nB, nC, reduceCtorEq, nD, nE, nF, nG, iA, iB, iC, iD, *]
    refine ACall.mono hclo ?_
    (rintro _ _ ⟨rfl, e2⟩; have e3 := e2.symm; clear e2; subst e3)
    clear hclo hc hp hc1 hp1 hc2 hp2
    (try simp only [push_cast, reduceIte, nA, nB, nC, reduceCtorEq, nD, nE, nF, nG, iA, iB, iC, iD, *])
    repeat' (first
    | refine AW_seq_kn fun K hK => ?_
    | refine AW_block ?_
    | ((first
      | refine AW_region_draw (id := 8) E1 (fun f => [].contains f) dLH0 dAH0 mixed (by kernel_rfl) ?_
      | refine AW_region E1 ?_ | refine AW_ret ?_ | refine AW_exit ?_ | refine AW_skip ?_ | unfold retQ); try simp only [push_cast, reduceIte, nA, nB, nC, reduceCtorEq, nD, nE, nF, nG, iA, iB, iC, iD, *])
    | (apply AW_cond; (case hc => (simp only [push_cast, reduceIte, nA, nB, nC, reduceCtorEq, nD, nE, nF, nG, iA, iB, iC, iD]; rfl)); all_goals (intro hc; first | (exfalso; simp only [push_cast, reduceIte, nA, nB, nC, reduceCtorEq, nD, nE, nF, nG, iA, iB, iC, iD, *] at hc; done) | (exact absurd hc (by decide)) | (with_reducible (have hcc : true = true := hc); clear hcc hc) | (with_reducible (have hcc : false = false := hc); clear hcc hc) | ((try simp only [Bool.not_true, Bool.not_false] at hc); (first | (with_reducible (have hcc : true = true := hc); clear hcc hc) | (with_reducible (have hcc : false = false := hc); clear hcc hc) | (have hp := hc; (try simp only [decide_eq_true_eq, decide_eq_false_iff_not, bA, bB, bC, bD, bE, bF, bG, bH] at hp))))))
    | (refine Kn.go hK ?_; clear hK K)
    | refine Kn.go (by assumption) ?_
    | (intro n hn; (try simp only [upd_none2, join_none_iff, ite_none, ne_eq] at hn); (try simp only [push_cast, reduceIte, nA, nB, nC, reduceCtorEq, nD, nE, nF, nG, iA, iB, iC, iD, *]))
    | (intro hc)
    | (apply ER_blk; (case hp => rfl); (case hb => (simp only [push_cast, reduceIte, nA, nB, nC, reduceCtorEq, nD, nE, nF, nG, iA, iB, iC, iD]; rfl)); (case hd => (simp only [push_cast, reduceIte, nA, nB, nC, reduceCtorEq, nD, nE, nF, nG, iA, iB, iC, iD]; done)); (case h => (intro hc; simp only [push_cast, reduceIte, nA, nB, nC, reduceCtorEq, nD, nE, nF, nG, iA, iB, iC, iD, *]; rfl)); simp only [push_cast, reduceIte, nA, nB, nC, reduceCtorEq, nD, nE, nF, nG, iA, iB, iC, iD, *])
    | (apply ER_guard; (case hb => (simp only [push_cast, reduceIte, nA, nB, nC, reduceCtorEq, nD, nE, nF, nG, iA, iB, iC, iD]; rfl)); all_goals ((intro hc; first | (exfalso; simp only [push_cast, reduceIte, nA, nB, nC, reduceCtorEq, nD, nE, nF, nG, iA, iB, iC, iD, *] at hc; done) | (exact absurd hc (by decide)) | (with_reducible (have hcc : true = true := hc); clear hcc hc) | (with_reducible (have hcc : false = false := hc); clear hcc hc) | ((try simp only [Bool.not_true, Bool.not_false] at hc); (first | (with_reducible (have hcc : true = true := hc); clear hcc hc) | (with_reducible (have hcc : false = false := hc); clear hcc hc) | (have hp := hc; (try simp only [decide_eq_true_eq, decide_eq_false_iff_not, bA, bB, bC, bD, bE, bF, bG, bH] at hp))))) <;> try simp only [push_cast, reduceIte, nA, nB, nC, reduceCtorEq, nD, nE, nF, nG, iA, iB, iC, iD, *]))
    | fail)
    refine does_app1 rfl rfl rfl rfl (unhid hown2) (by simp only [upd_none2]; exact hn) tE23 tS34 tB34 tZ34 rfl (by decide) ?_ ?_ ?_
    · simp only [List.length_map, maxLen]; omega
    · simp only [List.length_map]; omega
    intro x' H' hown'
    have hcs' := hown'.cs
    have k0' := hown'.get (upd_same _ _ _)
    have hown3 := hown'.turn (upd_same _ _ _) (bxN (sent + 1) x')
    rw [upd_upd] at hown3
    clear hown hown2 hown' k0 hcs hlv
    replace hown3 := Lib.hid hown3
    (try simp only [push_cast, reduceIte, nA, nB, nC, reduceCtorEq, nD, nE, nF, nG, iA, iB, iC, iD, *])
    repeat' (first
    | refine AW_seq_kn fun K hK => ?_
    | refine AW_block ?_
    | ((first
      | refine AW_region_draw (id := 8) E1 (fun f => [].contains f) dLH0 dAH0 mixed (by kernel_rfl) ?_
      | refine AW_region E1 ?_ | refine AW_ret ?_ | refine AW_exit ?_ | refine AW_skip ?_ | unfold retQ); try simp only [push_cast, reduceIte, nA, nB, nC, reduceCtorEq, nD, nE, nF, nG, iA, iB, iC, iD, *])
    | (apply AW_cond; (case hc => (simp only [push_cast, reduceIte, nA, nB, nC, reduceCtorEq, nD, nE, nF, nG, iA, iB, iC, iD]; rfl)); all_goals (intro hc; first | (exfalso; simp only [push_cast, reduceIte, nA, nB, nC, reduceCtorEq, nD, nE, nF, nG, iA, iB, iC, iD, *] at hc; done) | (exact absurd hc (by decide)) | (with_reducible (have hcc : true = true := hc); clear hcc hc) | (with_reducible (have hcc : false = false := hc); clear hcc hc) | ((try simp only [Bool.not_true, Bool.not_false] at hc); (first | (with_reducible (have hcc : true = true := hc); clear hcc hc) | (with_reducible (have hcc : false = false := hc); clear hcc hc) | (have hp := hc; (try simp only [decide_eq_true_eq, decide_eq_false_iff_not, bA, bB, bC, bD, bE, bF, bG, bH] at hp))))))
    | (refine Kn.go hK ?_; clear hK K)
    | refine Kn.go (by assumption) ?_
    | (intro n hn; (try simp only [upd_none2, join_none_iff, ite_none, ne_eq] at hn); (try simp only [push_cast, reduceIte, nA, nB, nC, reduceCtorEq, nD, nE, nF, nG, iA, iB, iC, iD, *]))
    | (intro hc)
    | (apply ER_blk; (case hp => rfl); (case hb => (simp only [push_cast, reduceIte, nA, nB, nC, reduceCtorEq, nD, nE, nF, nG, iA, iB, iC, iD]; rfl)); (case hd => (simp only [push_cast, reduceIte, nA, nB, nC, reduceCtorEq, nD, nE, nF, nG, iA, iB, iC, iD]; done)); (case h => (intro hc; simp only [push_cast, reduceIte, nA, nB, nC, reduceCtorEq, nD, nE, nF, nG, iA, iB, iC, iD, *]; rfl)); simp only [push_cast, reduceIte, nA, nB, nC, reduceCtorEq, nD, nE, nF, nG, iA, iB, iC, iD, *])
    | (apply ER_guard; (case hb => (simp only [push_cast, reduceIte, nA, nB, nC, reduceCtorEq, nD, nE, nF, nG, iA, iB, iC, iD]; rfl)); all_goals ((intro hc; first | (exfalso; simp only [push_cast, reduceIte, nA, nB, nC, reduceCtorEq, nD, nE, nF, nG, iA, iB, iC, iD, *] at hc; done) | (exact absurd hc (by decide)) | (with_reducible (have hcc : true = true := hc); clear hcc hc) | (with_reducible (have hcc : false = false := hc); clear hcc hc) | ((try simp only [Bool.not_true, Bool.not_false] at hc); (first | (with_reducible (have hcc : true = true := hc); clear hcc hc) | (with_reducible (have hcc : false = false := hc); clear hcc hc) | (have hp := hc; (try simp only [decide_eq_true_eq, decide_eq_false_iff_not, bA, bB, bC, bD, bE, bF, bG, bH] at hp))))) <;> try simp only [push_cast, reduceIte, nA, nB, nC, reduceCtorEq, nD, nE, nF, nG, iA, iB, iC, iD, *]))
    | fail)
    refine ⟨_, _, Weak.refl _ _, rfl, x', ?_⟩
    have := unhid hown3
    rw [show (sendA ⟨sent, l⟩ fr to b).ps.map Pk.av = l.map Pk.av ++ [Pk.av ⟨sent + 1, fr, to, b⟩] by simp [sendA]]
    exact this
theorem nOk_sent {n : Nt} (h : nOk n = true) : n.sent ≤ 4611686018427387904 ∧ n.ps.length ≤ 60 := by
  simp [nOk] at h; omega
theorem send_p (n : Nt) (hz : Sz n) (hs0 : 0 ≤ n.sent) (fr to : Int) (b : List Int) (hb : b.length ≤ 1000000) (xb : AV) (H : Heap) (hr : Rd H xb b) :
    ACall Try.prog 52 [.g (Nt.av n), .c (.int .i64 fr), .c (.int .i64 to), xb] H fun r H' => r = .t [.g (Nt.av (sendS n fr to b)), .c (.int .u64 (sendS n fr to b).sent), .c (.int .i64 (sendE n fr to b))] ∧ H' = H := by
  have hE : sendE n fr to b = if nOk n = true then sendF n fr to b else 380 := rfl
  obtain ⟨sent, l⟩ := n
  simp only at hs0
  have hcx := hr.cs
  cases hok : nOk ⟨sent, l⟩
  · have hS : sendS ⟨sent, l⟩ fr to b = zNt := by unfold sendS; rw [hE, hok]; rfl
    have h2 : sendE ⟨sent, l⟩ fr to b = 380 := by rw [hE, hok]; rfl
    rw [hS, h2]
    have hw := with_no ⟨sent, l⟩ hz hok
    simp only [Nt.av, zNt, List.map_nil] at hw ⊢
    clear hE hS h2 hok
    refine ACall_of' Try.func52 rfl (Ent_of Try.func52 (by kernel_rfl) rfl) (by simp [Try.ntmps52]) ?_; simp only [Try.ntmps52, Try.results52]
    repeat' (first
    | refine AW_seq_kn fun K hK => ?_
    | refine AW_block ?_
    | (refine does_call rfl rfl ?_; simp only [push_cast, reduceIte, nA, nB, nC, reduceCtorEq, nD, nE, nF, nG, iA, iB, iC, iD, *]; refine ACall.mono (hw _ _ _) ?_; (rintro _ _ ⟨rfl, e2⟩; have e3 := e2.symm; clear e2; subst e3); (try simp only [push_cast, reduceIte, nA, nB, nC, reduceCtorEq, nD, nE, nF, nG, iA, iB, iC, iD, *]))
    | ((first
      | refine AW_region_draw (id := 2) E1 (fun f => [].contains f) dLH1 dAH1 mixed (by kernel_rfl) ?_
      | refine AW_region E1 ?_ | refine AW_ret ?_ | refine AW_exit ?_ | refine AW_skip ?_ | unfold retQ); try simp only [push_cast, reduceIte, nA, nB, nC, reduceCtorEq, nD, nE, nF, nG, iA, iB, iC, iD, *])
    | (apply AW_cond; (case hc => (simp only [push_cast, reduceIte, nA, nB, nC, reduceCtorEq, nD, nE, nF, nG, iA, iB, iC, iD]; rfl)); all_goals (intro hc; first | (exfalso; simp only [push_cast, reduceIte, nA, nB, nC, reduceCtorEq, nD, nE, nF, nG, iA, iB, iC, iD, *] at hc; done) | (exact absurd hc (by decide)) | (with_reducible (have hcc : true = true := hc); clear hcc hc) | (with_reducible (have hcc : false = false := hc); clear hcc hc) | ((try simp only [Bool.not_true, Bool.not_false] at hc); (first | (with_reducible (have hcc : true = true := hc); clear hcc hc) | (with_reducible (have hcc : false = false := hc); clear hcc hc) | (have hp := hc; (try simp only [decide_eq_true_eq, decide_eq_false_iff_not, bA, bB, bC, bD, bE, bF, bG, bH] at hp))))))
    | (refine Kn.go hK ?_; clear hK K)
    | refine Kn.go (by assumption) ?_
    | (intro n hn; (try simp only [upd_none2, join_none_iff, ite_none, ne_eq] at hn); (try simp only [push_cast, reduceIte, nA, nB, nC, reduceCtorEq, nD, nE, nF, nG, iA, iB, iC, iD, *]))
    | (intro hc)
    | fail)
    exact ⟨_, _, Weak.less (by (simp only [push_cast, reduceIte, nA, nB, nC, reduceCtorEq, nD, nE, nF, nG, iA, iB, iC, iD, *])), rfl, rfl⟩
  · have h2 : sendE ⟨sent, l⟩ fr to b = sendF ⟨sent, l⟩ fr to b := by rw [hE, hok]; rfl
    have hS : sendS ⟨sent, l⟩ fr to b = if sendF ⟨sent, l⟩ fr to b = 0 then sendA ⟨sent, l⟩ fr to b else zNt := by unfold sendS; rw [h2]
    have hlz : l.length ≤ 1000 := hz.l
    obtain ⟨hs1, -⟩ := nOk_sent hok
    have hw := with_a sent l hz hok 97
    have h1 := send1_a sent l hlz hs0 hs1 fr to b hb
    rw [h2, hS]
    generalize sendF ⟨sent, l⟩ fr to b = E at *
    generalize sendA ⟨sent, l⟩ fr to b = A at *
    clear hE h2 hS hok
    replace hw := Lib.hid hw
    replace h1 := Lib.hid h1
    refine ACall_of' Try.func52 rfl (Ent_of Try.func52 (by kernel_rfl) rfl) (by simp [Try.ntmps52]) ?_; simp only [Try.ntmps52, Try.results52]
    repeat' (first
    | refine AW_seq_kn fun K hK => ?_
    | refine AW_block ?_
    | ((first
      | refine AW_region_draw (id := 2) E1 (fun f => [].contains f) dLH1 dAH1 mixed (by kernel_rfl) ?_
      | refine AW_region E1 ?_ | refine AW_ret ?_ | refine AW_exit ?_ | refine AW_skip ?_ | unfold retQ); try simp only [push_cast, reduceIte, nA, nB, nC, reduceCtorEq, nD, nE, nF, nG, iA, iB, iC, iD, *])
    | (apply AW_cond; (case hc => (simp only [push_cast, reduceIte, nA, nB, nC, reduceCtorEq, nD, nE, nF, nG, iA, iB, iC, iD]; rfl)); all_goals (intro hc; first | (exfalso; simp only [push_cast, reduceIte, nA, nB, nC, reduceCtorEq, nD, nE, nF, nG, iA, iB, iC, iD, *] at hc; done) | (exact absurd hc (by decide)) | (with_reducible (have hcc : true = true := hc); clear hcc hc) | (with_reducible (have hcc : false = false := hc); clear hcc hc) | ((try simp only [Bool.not_true, Bool.not_false] at hc); (first | (with_reducible (have hcc : true = true := hc); clear hcc hc) | (with_reducible (have hcc : false = false := hc); clear hcc hc) | (have hp := hc; (try simp only [decide_eq_true_eq, decide_eq_false_iff_not, bA, bB, bC, bD, bE, bF, bG, bH] at hp))))))
    | (refine Kn.go hK ?_; clear hK K)
    | refine Kn.go (by assumption) ?_
    | (intro n hn; (try simp only [upd_none2, join_none_iff, ite_none, ne_eq] at hn); (try simp only [push_cast, reduceIte, nA, nB, nC, reduceCtorEq, nD, nE, nF, nG, iA, iB, iC, iD, *]))
    | (intro hc)
    | fail)
    rename_i m4 h4 m5 h5 m6 h6 m7 h7
    generalize n = m8 at *
    obtain ⟨Hs, hHs⟩ : ∃ Hs : Heap, Hs = upd (upd (upd (upd (upd H m4 (.r 25 2 1 [[.c (.int .u64 sent), .l 4 (l.map Pk.av)]])) m5 (.r 3 1 1 [[.c (.int .i64 fr)]])) m6 (.r 3 1 1 [[.c (.int .i64 to)]])) m7 (.r 32 1 1 [[xb]])) m8 (.r 25 2 1 [[.c (.int .u64 0), .c (.slice none 0 0)]]) := ⟨_, rfl⟩
    have g5 : Hs m5 = some (.r 3 1 1 [[.c (.int .i64 fr)]]) := by rw [hHs]; simp only [push_cast, reduceIte, nA, nB, nC, reduceCtorEq, nD, nE, nF, nG, iA, iB, iC, iD, *]
    have g6 : Hs m6 = some (.r 3 1 1 [[.c (.int .i64 to)]]) := by rw [hHs]; simp only [push_cast, reduceIte, nA, nB, nC, reduceCtorEq, nD, nE, nF, nG, iA, iB, iC, iD, *]
    have g7 : Hs m7 = some (.r 32 1 1 [[xb]]) := by rw [hHs]; simp only [push_cast, reduceIte, nA, nB, nC, reduceCtorEq, nD, nE, nF, nG, iA, iB, iC, iD, *]
    have g8 : Hs m8 = some (.r 25 2 1 [[.c (.int .u64 0), .c (.slice none 0 0)]]) := by rw [hHs]; exact upd_same _ _ _
    have hm8 : H m8 = none := hn.2.2.2.2
    have hle : Heap.le H Hs := by rw [hHs]; (repeat' (first | exact Heap.le_refl _ | refine hle_upd2 ?_ _ _ | (refine Heap.le_new ?_ ?_; rotate_left 1; focus (first | assumption | (simp only [upd_none2, upd_get, ne_eq, push_cast, reduceIte, nA, nB, nC, reduceCtorEq, nD, nE, nF, nG, iA, iB, iC, iD, *]; done) | (simp [upd_get, *]; done)))))
    rw [← hHs]
    clear hHs
    refine does_call rfl rfl ?_
    simp only [push_cast, reduceIte, nA, nB, nC, reduceCtorEq, nD, nE, nF, nG, iA, iB, iC, iD, *]
    refine ACall.mono ((unhid hw) [.p m5 1 0 0, .p m6 1 0 0, .p m7 1 0 0] Hs E A (fun G => G) (Turns.id _) (fun he G x B nb hG hnb hown => (unhid h1 G m5 m6 m7 xb (hG _ _ g5) (hG _ _ g6) (hG _ _ g7) (hr.mono (Heap.le_trans hle hG)) x B nb hnb hown).mono fun r H' h => ⟨h.1, h.2.1 he⟩) (fun he G x B nb hG hnb hown => (unhid h1 G m5 m6 m7 xb (hG _ _ g5) (hG _ _ g6) (hG _ _ g7) (hr.mono (Heap.le_trans hle hG)) x B nb hnb hown).mono fun r H' h => ⟨by rw [h.1, he], h.2.2 he⟩)) ?_
    rintro _ _ ⟨rfl, e2⟩
    rw [ite_self] at e2
    subst e2
    generalize (if E = 0 then A else zNt) = R at *
    obtain ⟨rs, rl⟩ := R
    have hne8 := ne_old g8
    clear hw h1
    (try simp only [push_cast, reduceIte, nA, nB, nC, reduceCtorEq, nD, nE, nF, nG, iA, iB, iC, iD, *])
    repeat' (first
    | refine AW_seq_kn fun K hK => ?_
    | refine AW_block ?_
    | ((first
      | refine AW_region_draw (id := 2) E1 (fun f => [].contains f) dLH1 dAH1 mixed (by kernel_rfl) ?_
      | refine AW_region E1 ?_ | refine AW_ret ?_ | refine AW_exit ?_ | refine AW_skip ?_ | unfold retQ); try simp only [push_cast, reduceIte, nA, nB, nC, reduceCtorEq, nD, nE, nF, nG, iA, iB, iC, iD, *])
    | (apply AW_cond; (case hc => (simp only [push_cast, reduceIte, nA, nB, nC, reduceCtorEq, nD, nE, nF, nG, iA, iB, iC, iD]; rfl)); all_goals (intro hc; first | (exfalso; simp only [push_cast, reduceIte, nA, nB, nC, reduceCtorEq, nD, nE, nF, nG, iA, iB, iC, iD, *] at hc; done) | (exact absurd hc (by decide)) | (with_reducible (have hcc : true = true := hc); clear hcc hc) | (with_reducible (have hcc : false = false := hc); clear hcc hc) | ((try simp only [Bool.not_true, Bool.not_false] at hc); (first | (with_reducible (have hcc : true = true := hc); clear hcc hc) | (with_reducible (have hcc : false = false := hc); clear hcc hc) | (have hp := hc; (try simp only [decide_eq_true_eq, decide_eq_false_iff_not, bA, bB, bC, bD, bE, bF, bG, bH] at hp))))))
    | (refine Kn.go hK ?_; clear hK K)
    | refine Kn.go (by assumption) ?_
    | (intro n hn; (try simp only [upd_none2, join_none_iff, ite_none, ne_eq] at hn); (try simp only [push_cast, reduceIte, nA, nB, nC, reduceCtorEq, nD, nE, nF, nG, iA, iB, iC, iD, *]))
    | (intro hc)
    | fail)
    refine ⟨_, H, Weak.less ?_, rfl, rfl⟩
    intro q b hq
    have c2 : ¬ q = m8 := by rintro rfl; rw [hm8] at hq; cases hq
    have c3 : ¬ q = n := by rintro rfl; have := hle _ _ hq; rw [hn] at this; cases this
    simp only [upd_get, c2, c3, if_false]
    exact hle _ _ hq
end Go.Proofs.Ytiepahhneagjhaa
