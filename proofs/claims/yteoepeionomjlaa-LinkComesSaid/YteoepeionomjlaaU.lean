/- Walks: the first one is taken off. -/
import Derived.Test.YteoepeionomjlaaI
namespace Go.Proofs.Yteoepeionomjlaa
open Go.RowKit
open Nat renaming reduceEqDiff → nA, reduceLT → nB, reduceLeDiff → nC, reduceAdd → nD, reduceMul → nE, reduceSub → nF, reduceBEq → nG
open Int renaming reduceToNat → iA, reduceLT → iB, reduceLE → iC, reduceEq → iD
open Bool renaming and_eq_true → bA, or_eq_true → bB, or_eq_false_iff → bC, and_eq_false_iff → bD, not_eq_true' → bE, not_eq_false' → bF, not_true → bG, not_false → bH
set_option linter.all false
set_option maxHeartbeats 4000000
attribute [local irreducible] AW Does

abbrev boxE (e : El) : Blk := .r 33 5 1 [El.av e]
theorem take1_nil (s : Rcv) (p t : Nat) (x : AV) (H : Heap) (hb : s.b = []) (hx : lenV x = some 0) (hp : H p = some (boxR s x)) :
    ACall Try.prog 61 ([.p p 4 0 0] ++ [.p t 5 0 0]) H fun r H' => r = .c (.int .i64 4) ∧ H' = H := by
  simp only [boxR, rcvX] at hp
  refine ACall_of' Try.func61 rfl (Ent_of Try.func61 (by kernel_rfl) rfl) (by simp [Try.ntmps61]) ?_; simp only [Try.ntmps61, Try.results61]
  repeat' (first
    | refine AW_seq_kn fun K hK => ?_
    | refine AW_block ?_
    | ((first
      | refine AW_region_draw (id := 3) E1 (fun f => [].contains f) [(0, false, []), (1, false, []), (2, false, []), (3, false, []), (4, false, []), (5, false, []), (6, false, []), (7, false, []), (8, false, []), (9, false, []), (10, true, []), (11, false, []), (12, false, [10]), (13, false, []), (14, false, []), (15, false, [])] [[], [], [1], [1, 2], [1, 2, 3], [1, 2, 3, 4], [1, 2, 3, 4, 5], [], [7], [7, 8], [7, 8, 9], [7, 8, 9, 10], [1, 2, 3, 4, 5, 6], [0, 1, 2, 3, 4, 5, 6, 7, 8, 9, 10, 11, 12], [0, 1, 2, 3, 4, 5, 6, 7, 8, 9, 10, 11, 12, 13], [0, 1, 2, 3, 4, 5, 6, 7, 8, 9, 10, 11, 12, 13, 14]] mixed (by kernel_rfl) ?_
      | refine AW_region E1 ?_ | refine AW_ret ?_ | refine AW_exit ?_ | refine AW_skip ?_ | unfold retQ); try simp only [push_cast, reduceIte, nA, nB, nC, reduceCtorEq, nD, nE, nF, nG, iA, iB, iC, iD, *])
    | (apply AW_cond; (case hc => (simp only [push_cast, reduceIte, nA, nB, nC, reduceCtorEq, nD, nE, nF, nG, iA, iB, iC, iD]; rfl)); all_goals (intro hc; first | (exfalso; simp only [push_cast, reduceIte, nA, nB, nC, reduceCtorEq, nD, nE, nF, nG, iA, iB, iC, iD, *] at hc; done) | (exact absurd hc (by decide)) | (with_reducible (have hcc : true = true := hc); clear hcc hc) | (with_reducible (have hcc : false = false := hc); clear hcc hc) | ((try simp only [Bool.not_true, Bool.not_false] at hc); (first | (with_reducible (have hcc : true = true := hc); clear hcc hc) | (with_reducible (have hcc : false = false := hc); clear hcc hc) | (have hp := hc; (try simp only [decide_eq_true_eq, decide_eq_false_iff_not, bA, bB, bC, bD, bE, bF, bG, bH] at hp))))))
    | (refine Kn.go hK ?_; clear hK K)
    | refine Kn.go (by assumption) ?_
    | (intro n hn; (try simp only [upd_none2, join_none_iff, ite_none, ne_eq] at hn); (try simp only [push_cast, reduceIte, nA, nB, nC, reduceCtorEq, nD, nE, nF, nG, iA, iB, iC, iD, *]))
    | (intro hc)
    | fail)
  exact ⟨_, _, Weak.refl _ _, rfl, rfl⟩
theorem take1_a (s : Rcv) (y : El) (b' : List El) (p t m cap : Nat) (H : Heap) (hb : s.b = y :: b') (hl : s.b.length ≤ 1000) (hm : H m = some (.r 33 5 cap (s.b.map El.av))) (hp : H p = some (boxR s (.s m 5 0 s.b.length cap))) (e0 : El) (ht : H t = some (boxE e0)) (d1 : p ≠ t) (d2 : p ≠ m) (d3 : t ≠ m) :
    ACall Try.prog 61 ([.p p 4 0 0] ++ [.p t 5 0 0]) H fun r H' => r = .c (.int .i64 0) ∧ H' = upd (upd H t (boxE y)) p (boxR { s with b := b' } (.s m 5 1 b'.length (cap - 1))) := by
  have hlen : s.b.length = b'.length + 1 := by rw [hb]; rfl
  refine ACall.blk (Ent_of Try.func61 (by kernel_rfl) rfl) hm fun hcap hmax _ _ => ?_
  rw [List.length_map, hlen] at hcap
  rw [hlen] at hp
  simp only [boxR, rcvX] at hp
  rw [hb] at hm
  simp only [List.map_cons, El.av] at hm
  simp only [boxE, El.av] at ht
  have c1 : ¬ ((b'.length : Int) + 1 = 0) := by omega
  have c2 : (0 : Int) < (b'.length : Int) + 1 := by omega
  have c3 : (1 : Int) ≤ (b'.length : Int) + 1 := by omega
  have c4 : (1 : Int) ≤ cap := by omega
  have c5 : (b'.length : Int) + 1 ≤ cap := by omega
  have c6 : ((b'.length : Int) + 1).toNat - 1 = b'.length := by omega
  have d1' := Ne.symm d1
  have d2' := Ne.symm d2
  have d3' := Ne.symm d3
  clear hb hlen
  refine ACall_of' Try.func61 rfl (Ent_of Try.func61 (by kernel_rfl) rfl) (by simp [Try.ntmps61]) ?_; simp only [Try.ntmps61, Try.results61]
  repeat' (first
    | refine AW_seq_kn fun K hK => ?_
    | refine AW_block ?_
    | ((first
      | refine AW_region_draw (id := 3) E1 (fun f => [].contains f) [(0, false, []), (1, false, []), (2, false, []), (3, false, []), (4, false, []), (5, false, []), (6, false, []), (7, false, []), (8, false, []), (9, false, []), (10, true, []), (11, false, []), (12, false, [10]), (13, false, []), (14, false, []), (15, false, [])] [[], [], [1], [1, 2], [1, 2, 3], [1, 2, 3, 4], [1, 2, 3, 4, 5], [], [7], [7, 8], [7, 8, 9], [7, 8, 9, 10], [1, 2, 3, 4, 5, 6], [0, 1, 2, 3, 4, 5, 6, 7, 8, 9, 10, 11, 12], [0, 1, 2, 3, 4, 5, 6, 7, 8, 9, 10, 11, 12, 13], [0, 1, 2, 3, 4, 5, 6, 7, 8, 9, 10, 11, 12, 13, 14]] mixed (by kernel_rfl) ?_
      | refine AW_region E1 ?_ | refine AW_ret ?_ | refine AW_exit ?_ | refine AW_skip ?_ | unfold retQ); try simp only [push_cast, reduceIte, nA, nB, nC, reduceCtorEq, nD, nE, nF, nG, iA, iB, iC, iD, *])
    | (apply AW_cond; (case hc => (simp only [push_cast, reduceIte, nA, nB, nC, reduceCtorEq, nD, nE, nF, nG, iA, iB, iC, iD]; rfl)); all_goals (intro hc; first | (exfalso; simp only [push_cast, reduceIte, nA, nB, nC, reduceCtorEq, nD, nE, nF, nG, iA, iB, iC, iD, *] at hc; done) | (exact absurd hc (by decide)) | (with_reducible (have hcc : true = true := hc); clear hcc hc) | (with_reducible (have hcc : false = false := hc); clear hcc hc) | ((try simp only [Bool.not_true, Bool.not_false] at hc); (first | (with_reducible (have hcc : true = true := hc); clear hcc hc) | (with_reducible (have hcc : false = false := hc); clear hcc hc) | (have hp := hc; (try simp only [decide_eq_true_eq, decide_eq_false_iff_not, bA, bB, bC, bD, bE, bF, bG, bH] at hp))))))
    | (refine Kn.go hK ?_; clear hK K)
    | refine Kn.go (by assumption) ?_
    | (intro n hn; (try simp only [upd_none2, join_none_iff, ite_none, ne_eq] at hn); (try simp only [push_cast, reduceIte, nA, nB, nC, reduceCtorEq, nD, nE, nF, nG, iA, iB, iC, iD, *]))
    | (intro hc)
    | fail)
  exact ⟨_, _, Weak.refl _ _, rfl, rfl⟩
def OwnS (H : Heap) (x : AV) (q : List El) (H0 : Heap) : Prop :=
  OwnQ H x q H0 ∨ ∃ n i cap cap0 rows, x = .s n 5 i q.length cap ∧ H n = some (.r 33 5 cap0 rows) ∧ rows.drop i = q.map El.av ∧ i + q.length ≤ rows.length ∧ H0 = del H n
theorem OwnS.get {H H0 : Heap} {x : AV} {q : List El} (h : OwnS H x q H0) {m : Nat} {k : Blk} (hm : H0 m = some k) : H m = some k := by
  rcases h with h | ⟨n, i, cap, cap0, rows, e1, e2, e3, e4, rfl⟩
  · exact OwnL.get h hm
  · exact del_le _ _ m k hm
theorem OwnS.turn {H H0 : Heap} {x : AV} {q : List El} (h : OwnS H x q H0) {m : Nat} {k0 : Blk} (hm : H0 m = some k0) (k : Blk) : OwnS (upd H m k) x q (upd H0 m k) := by
  rcases h with h | ⟨n, i, cap, cap0, rows, e1, e2, e3, e4, rfl⟩
  · exact .inl (OwnL.turn h hm k)
  · have hne : n ≠ m := by rintro rfl; rw [del_same] at hm; cases hm
    exact .inr ⟨n, i, cap, cap0, rows, e1, by rw [upd_ne hne]; exact e2, e3, e4, (del_upd_ne hne.symm).symm⟩
theorem OwnS.new {H H0 : Heap} {x : AV} {q : List El} (h : OwnS H x q H0) {m : Nat} (hm : H m = none) (k : Blk) : OwnS (upd H m k) x q (upd H0 m k) := by
  rcases h with h | ⟨n, i, cap, cap0, rows, e1, e2, e3, e4, rfl⟩
  · exact .inl (OwnL.new h hm k)
  · have hne : n ≠ m := by rintro rfl; rw [e2] at hm; cases hm
    exact .inr ⟨n, i, cap, cap0, rows, e1, by rw [upd_ne hne]; exact e2, e3, e4, (del_upd_ne hne.symm).symm⟩
theorem OwnS.dele {H H0 : Heap} {x : AV} {q : List El} (h : OwnS H x q H0) {m : Nat} {k : Blk} (hm : H0 m = some k) : OwnS (del H m) x q (del H0 m) := by
  rcases h with h | ⟨n, i, cap, cap0, rows, e1, e2, e3, e4, rfl⟩
  · exact .inl (OwnL.dele h hm)
  · have hne : n ≠ m := by rintro rfl; rw [del_same] at hm; cases hm
    refine .inr ⟨n, i, cap, cap0, rows, e1, by rw [del_ne hne]; exact e2, e3, e4, ?_⟩
    funext q; simp only [del]; split <;> split <;> rfl
theorem OwnS.none {H H0 : Heap} {x : AV} {q : List El} (h : OwnS H x q H0) {m : Nat} (hm : H m = none) : H0 m = none := by
  rcases h with h | ⟨n, i, cap, cap0, rows, e1, e2, e3, e4, rfl⟩
  · exact OwnL.none h hm
  · unfold del; split <;> first | rfl | exact hm
theorem OwnS.cs {H H0 : Heap} {x : AV} {q : List El} (h : OwnS H x q H0) : x.cs = some [x] := by
  rcases h with h | ⟨n, i, cap, cap0, rows, rfl, e2, e3, e4, rfl⟩
  · exact OwnL.cs h
  · rfl
theorem OwnS.len {H H0 : Heap} {x : AV} {q : List El} (h : OwnS H x q H0) : lenV x = some q.length := by
  rcases h with h | ⟨n, i, cap, cap0, rows, rfl, e2, e3, e4, rfl⟩
  · have := OwnL.len h; rwa [List.length_map] at this
  · rfl
theorem OwnS.weak {H H0 : Heap} {x r r' : AV} {q : List El} (h : OwnS H x q H0) (hr : ∀ F F' : Mem, F.le F' → Imp F F' x (.l 5 (q.map El.av)) → x.one = true → Imp F F' r r') : Weak r H r' H0 := by
  rcases h with h | ⟨n, i, cap, cap0, rows, rfl, e2, e3, e4, rfl⟩
  · exact OwnL.weak h hr
  · refine Weak.hold n e2 fun F F' hF hy => hr F F' hF ?_ rfl
    have h5 := hy (.s n 5 i q.length cap)
    simp only [frz, and_self, true_and, e4, if_true] at h5
    rw [e3, List.take_of_length_le (by simp)] at h5
    exact h5
theorem OwnS.cut {H H0 K : Heap} {x : AV} {q : List El} (h : OwnS H x q H0) (hk : Heap.le K H0) : ∃ H', Heap.le H' H ∧ OwnS H' x q K := by
  rcases h with h | ⟨n, i, cap, cap0, rows, e1, e2, e3, e4, rfl⟩
  · obtain ⟨H', h1, h2⟩ := OwnL.cut h hk
    exact ⟨H', h1, .inl h2⟩
  · have hn : K n = Option.none := by
      cases h : K n with
      | none => rfl
      | some k => have := hk n k h; rw [del_same] at this; cases this
    refine ⟨upd K n (.r 33 5 cap0 rows), fun m k hm => ?_, .inr ⟨n, i, cap, cap0, rows, e1, upd_same _ _ _, e3, e4, (del_upd_same hn).symm⟩⟩
    by_cases e : m = n
    · subst e; rw [upd_same] at hm; cases hm; exact e2
    · rw [upd_ne e] at hm; exact del_le _ _ m k (hk m k hm)
def takeE (s : Rcv) : Int := if rcvOk s = true then (if s.b = [] then 4 else 0) else 240
def takeS (s : Rcv) : Rcv := if takeE s = 0 then { s with b := s.b.tail } else zRcv
def takeX (s : Rcv) : El := if takeE s = 0 then s.b.headD zEl else zEl
theorem del_at {H G : Heap} {m : Nat} (h : del G m = H) {q : Nat} {k : Blk} (hq : H q = some k) : q ≠ m ∧ G q = some k := by
  subst h
  have : q ≠ m := by rintro rfl; rw [del_same] at hq; cases hq
  exact ⟨this, by rwa [del_ne this] at hq⟩
theorem del_off {H G : Heap} {m : Nat} (h : del G m = H) {q : Nat} (hq : q ≠ m) : G q = H q := by
  subst h; rw [del_ne hq]
theorem hearingT_o (s : Rcv) (hq : s.b.length ≤ 1000000) (t : Nat) (H : Heap) (ht : H t = some (boxE zEl)) :
    ACall Try.prog 59 [.g (Rcv.av s), .f (.func 61) [] [.p t 5 0 0]] H fun r H' => ∃ x', r = .t [.g (rcvX (takeS s) x'), .c (.int .i64 (takeE s))] ∧ OwnS H' x' (takeS s).b (upd H t (boxE (takeX s))) := by
  have hl : s.b.length ≤ maxLen := by unfold maxLen; omega
  cases hok : rcvOk s
  · have e1 : takeE s = 240 := by simp [takeE, hok]
    have e2 : takeS s = zRcv := by simp [takeS, e1]
    have e3 : takeX s = zEl := by simp [takeX, e1]
    rw [e1, e2, e3, upd_self ht]
    clear e1 e2 e3 ht
    refine ACall_of' Try.func59 rfl (Ent_of Try.func59 (by kernel_rfl) rfl) (by simp [Try.ntmps59]) ?_; simp only [Try.ntmps59, Try.results59]
    repeat' (first
    | refine AW_seq_kn fun K hK => ?_
    | refine AW_block ?_
    | (refine does_call rfl rfl ?_; simp only [push_cast, reduceIte, nA, nB, nC, reduceCtorEq, nD, nE, nF, nG, iA, iB, iC, iD, *]; refine ACall.mono (checkReceiver_p _ (by assumption) _) ?_; (rintro _ _ ⟨rfl, e2⟩; have e3 := e2.symm; clear e2; subst e3); (try simp only [push_cast, reduceIte, nA, nB, nC, reduceCtorEq, nD, nE, nF, nG, iA, iB, iC, iD, *]))
    | ((first
      | refine AW_region E1 ?_ | refine AW_ret ?_ | refine AW_exit ?_ | refine AW_skip ?_ | unfold retQ); try simp only [push_cast, reduceIte, nA, nB, nC, reduceCtorEq, nD, nE, nF, nG, iA, iB, iC, iD, *])
    | (apply AW_cond; (case hc => (simp only [push_cast, reduceIte, nA, nB, nC, reduceCtorEq, nD, nE, nF, nG, iA, iB, iC, iD]; rfl)); all_goals (intro hc; first | (exfalso; simp only [push_cast, reduceIte, nA, nB, nC, reduceCtorEq, nD, nE, nF, nG, iA, iB, iC, iD, *] at hc; done) | (exact absurd hc (by decide)) | (with_reducible (have hcc : true = true := hc); clear hcc hc) | (with_reducible (have hcc : false = false := hc); clear hcc hc) | ((try simp only [Bool.not_true, Bool.not_false] at hc); (first | (with_reducible (have hcc : true = true := hc); clear hcc hc) | (with_reducible (have hcc : false = false := hc); clear hcc hc) | (have hp := hc; (try simp only [decide_eq_true_eq, decide_eq_false_iff_not, bA, bB, bC, bD, bE, bF, bG, bH] at hp))))))
    | (refine Kn.go hK ?_; clear hK K)
    | refine Kn.go (by assumption) ?_
    | (intro n hn; (try simp only [upd_none2, join_none_iff, ite_none, ne_eq] at hn); (try simp only [push_cast, reduceIte, nA, nB, nC, reduceCtorEq, nD, nE, nF, nG, iA, iB, iC, iD, *]))
    | (intro hc)
    | fail)
    exact ⟨_, H, Weak.less (by (simp only [push_cast, reduceIte, nA, nB, nC, reduceCtorEq, nD, nE, nF, nG, iA, iB, iC, iD, *])), .c (.slice none 0 0), rfl, .inl (OwnL.nil _ _ _)⟩
  · cases hb : s.b with
    | nil =>
      have e1 : takeE s = 4 := by simp [takeE, hok, hb]
      have e2 : takeS s = zRcv := by simp [takeS, e1]
      have e3 : takeX s = zEl := by simp [takeX, e1]
      rw [e1, e2, e3, upd_self ht]
      clear e1 e2 e3 ht
      replace hb := Lib.hid hb
      refine ACall_of' Try.func59 rfl (Ent_of Try.func59 (by kernel_rfl) rfl) (by simp [Try.ntmps59]) ?_; simp only [Try.ntmps59, Try.results59]
      repeat' (first
    | refine AW_seq_kn fun K hK => ?_
    | refine AW_block ?_
    | (refine does_call rfl rfl ?_; simp only [push_cast, reduceIte, nA, nB, nC, reduceCtorEq, nD, nE, nF, nG, iA, iB, iC, iD, *]; refine ACall.mono (clone_o s.b hq _) ?_; intro x G' hown; have hcs := hown.cs; (try simp only [push_cast, reduceIte, nA, nB, nC, reduceCtorEq, nD, nE, nF, nG, iA, iB, iC, iD, *]))
    | (refine does_call rfl rfl ?_; simp only [push_cast, reduceIte, nA, nB, nC, reduceCtorEq, nD, nE, nF, nG, iA, iB, iC, iD, *]; refine ACall.mono (checkReceiver_p _ (by assumption) _) ?_; (rintro _ _ ⟨rfl, e2⟩; have e3 := e2.symm; clear e2; subst e3); (try simp only [push_cast, reduceIte, nA, nB, nC, reduceCtorEq, nD, nE, nF, nG, iA, iB, iC, iD, *]))
    | ((first
      | refine AW_region E1 ?_ | refine AW_ret ?_ | refine AW_exit ?_ | refine AW_skip ?_ | unfold retQ); try simp only [push_cast, reduceIte, nA, nB, nC, reduceCtorEq, nD, nE, nF, nG, iA, iB, iC, iD, *])
    | (apply AW_cond; (case hc => (simp only [push_cast, reduceIte, nA, nB, nC, reduceCtorEq, nD, nE, nF, nG, iA, iB, iC, iD]; rfl)); all_goals (intro hc; first | (exfalso; simp only [push_cast, reduceIte, nA, nB, nC, reduceCtorEq, nD, nE, nF, nG, iA, iB, iC, iD, *] at hc; done) | (exact absurd hc (by decide)) | (with_reducible (have hcc : true = true := hc); clear hcc hc) | (with_reducible (have hcc : false = false := hc); clear hcc hc) | ((try simp only [Bool.not_true, Bool.not_false] at hc); (first | (with_reducible (have hcc : true = true := hc); clear hcc hc) | (with_reducible (have hcc : false = false := hc); clear hcc hc) | (have hp := hc; (try simp only [decide_eq_true_eq, decide_eq_false_iff_not, bA, bB, bC, bD, bE, bF, bG, bH] at hp))))))
    | (refine Kn.go hK ?_; clear hK K)
    | refine Kn.go (by assumption) ?_
    | (intro n hn; (try simp only [upd_none2, join_none_iff, ite_none, ne_eq] at hn); (try simp only [push_cast, reduceIte, nA, nB, nC, reduceCtorEq, nD, nE, nF, nG, iA, iB, iC, iD, *]))
    | (intro hc)
    | fail)
      rename_i p hp
      have hpn : p ≠ n := fun h => hn.1.1 h.symm
      have k1 := hown.get (m := p) (by rw [upd_ne hpn]; exact upd_same _ _ _)
      have k2 := hown.get (m := n) (upd_same _ _ _)
      have hln := hown.len
      have hb : s.b = [] := hb
      have hc := take1_nil s p t x (upd G' p (boxR s x)) hb (by rw [hln, hb]; rfl) (upd_same _ _ _)
      replace hb := Lib.hid hb
      simp only [boxR, rcvX, List.cons_append, List.nil_append] at hc
      have hle : Heap.le H G' := Heap.le_trans (Heap.le_new (Heap.le_new (Heap.le_refl _) (by assumption)) hn.2) hown.le
      clear hown
      (try simp only [push_cast, reduceIte, nA, nB, nC, reduceCtorEq, nD, nE, nF, nG, iA, iB, iC, iD, *])
      refine Kn.go (by assumption) ?_
      repeat' (first
    | refine AW_seq_kn fun K hK => ?_
    | refine AW_block ?_
    | (refine does_call_f rfl rfl ?_; simp only [push_cast, reduceIte, nA, nB, nC, reduceCtorEq, nD, nE, nF, nG, iA, iB, iC, iD]; refine ACall.mono hc ?_; (rintro _ _ ⟨rfl, e2⟩; have e3 := e2.symm; clear e2; subst e3); (try simp only [push_cast, reduceIte, nA, nB, nC, reduceCtorEq, nD, nE, nF, nG, iA, iB, iC, iD, *]))
    | (refine does_call rfl rfl ?_; simp only [push_cast, reduceIte, nA, nB, nC, reduceCtorEq, nD, nE, nF, nG, iA, iB, iC, iD, *]; refine ACall.mono (checkReceiver_p _ (by assumption) _) ?_; (rintro _ _ ⟨rfl, e2⟩; have e3 := e2.symm; clear e2; subst e3); (try simp only [push_cast, reduceIte, nA, nB, nC, reduceCtorEq, nD, nE, nF, nG, iA, iB, iC, iD, *]))
    | ((first
      | refine AW_region E1 ?_ | refine AW_ret ?_ | refine AW_exit ?_ | refine AW_skip ?_ | unfold retQ); try simp only [push_cast, reduceIte, nA, nB, nC, reduceCtorEq, nD, nE, nF, nG, iA, iB, iC, iD, *])
    | (apply AW_cond; (case hc => (simp only [push_cast, reduceIte, nA, nB, nC, reduceCtorEq, nD, nE, nF, nG, iA, iB, iC, iD]; rfl)); all_goals (intro hc; first | (exfalso; simp only [push_cast, reduceIte, nA, nB, nC, reduceCtorEq, nD, nE, nF, nG, iA, iB, iC, iD, *] at hc; done) | (exact absurd hc (by decide)) | (with_reducible (have hcc : true = true := hc); clear hcc hc) | (with_reducible (have hcc : false = false := hc); clear hcc hc) | ((try simp only [Bool.not_true, Bool.not_false] at hc); (first | (with_reducible (have hcc : true = true := hc); clear hcc hc) | (with_reducible (have hcc : false = false := hc); clear hcc hc) | (have hp := hc; (try simp only [decide_eq_true_eq, decide_eq_false_iff_not, bA, bB, bC, bD, bE, bF, bG, bH] at hp))))))
    | (refine Kn.go hK ?_; clear hK K)
    | refine Kn.go (by assumption) ?_
    | (intro n hn; (try simp only [upd_none2, join_none_iff, ite_none, ne_eq] at hn); (try simp only [push_cast, reduceIte, nA, nB, nC, reduceCtorEq, nD, nE, nF, nG, iA, iB, iC, iD, *]))
    | (intro hc)
    | fail)
      exact ⟨_, H, Weak.less (Heap.le_new (Heap.le_new hle (by assumption)) hn.2), .c (.slice none 0 0), rfl, .inl (OwnL.nil _ _ _)⟩
    | cons y b' =>
      have e1 : takeE s = 0 := by simp [takeE, hok, hb]
      have e2 : takeS s = { s with b := b' } := by simp [takeS, e1, hb]
      have e3 : takeX s = y := by simp [takeX, e1, hb]
      rw [e1, e2, e3]
      clear e1 e2 e3
      have h8 := (rcvOk_len hok).1
      refine ACall_of' Try.func59 rfl (Ent_of Try.func59 (by kernel_rfl) rfl) (by simp [Try.ntmps59]) ?_; simp only [Try.ntmps59, Try.results59]
      replace hb := Lib.hid hb
      repeat' (first
    | refine AW_seq_kn fun K hK => ?_
    | refine AW_block ?_
    | (refine does_call rfl rfl ?_; simp only [push_cast, reduceIte, nA, nB, nC, reduceCtorEq, nD, nE, nF, nG, iA, iB, iC, iD, *]; refine ACall.mono (clone_o s.b hq _) ?_; intro x G' hown; have hcs := hown.cs; (try simp only [push_cast, reduceIte, nA, nB, nC, reduceCtorEq, nD, nE, nF, nG, iA, iB, iC, iD, *]))
    | (refine does_call rfl rfl ?_; simp only [push_cast, reduceIte, nA, nB, nC, reduceCtorEq, nD, nE, nF, nG, iA, iB, iC, iD, *]; refine ACall.mono (checkReceiver_p _ (by assumption) _) ?_; (rintro _ _ ⟨rfl, e2⟩; have e3 := e2.symm; clear e2; subst e3); (try simp only [push_cast, reduceIte, nA, nB, nC, reduceCtorEq, nD, nE, nF, nG, iA, iB, iC, iD, *]))
    | ((first
      | refine AW_region E1 ?_ | refine AW_ret ?_ | refine AW_exit ?_ | refine AW_skip ?_ | unfold retQ); try simp only [push_cast, reduceIte, nA, nB, nC, reduceCtorEq, nD, nE, nF, nG, iA, iB, iC, iD, *])
    | (apply AW_cond; (case hc => (simp only [push_cast, reduceIte, nA, nB, nC, reduceCtorEq, nD, nE, nF, nG, iA, iB, iC, iD]; rfl)); all_goals (intro hc; first | (exfalso; simp only [push_cast, reduceIte, nA, nB, nC, reduceCtorEq, nD, nE, nF, nG, iA, iB, iC, iD, *] at hc; done) | (exact absurd hc (by decide)) | (with_reducible (have hcc : true = true := hc); clear hcc hc) | (with_reducible (have hcc : false = false := hc); clear hcc hc) | ((try simp only [Bool.not_true, Bool.not_false] at hc); (first | (with_reducible (have hcc : true = true := hc); clear hcc hc) | (with_reducible (have hcc : false = false := hc); clear hcc hc) | (have hp := hc; (try simp only [decide_eq_true_eq, decide_eq_false_iff_not, bA, bB, bC, bD, bE, bF, bG, bH] at hp))))))
    | (refine Kn.go hK ?_; clear hK K)
    | refine Kn.go (by assumption) ?_
    | (intro n hn; (try simp only [upd_none2, join_none_iff, ite_none, ne_eq] at hn); (try simp only [push_cast, reduceIte, nA, nB, nC, reduceCtorEq, nD, nE, nF, nG, iA, iB, iC, iD, *]))
    | (intro hc)
    | fail)
      rename_i p hp
      have hb : s.b = y :: b' := hb
      have hpn : p ≠ n := fun h => hn.1.1 h.symm
      obtain ⟨b0, hb0⟩ : ∃ b0 : Blk, b0 = Blk.r 55 4 1 [[.c (.int .u32 s.se), .c (.int .u64 s.nx), .l 5 (s.b.map El.av), .c (.int .i64 s.ro)]] := ⟨_, rfl⟩
      obtain ⟨Z, hZ⟩ : ∃ Z : Blk, Z = Blk.r 55 4 1 [[.c (.int .u32 0), .c (.int .u64 0), .c (.slice none 0 0), .c (.int .i64 0)]] := ⟨_, rfl⟩
      rcases hown with ⟨-, h0, -⟩ | ⟨m, cap, rfl, hm, hdel⟩
      · rw [hb] at h0; cases h0
      rw [List.length_map] at *
      have htn : t ≠ n := by rintro rfl; rw [hn.2] at ht; cases ht
      have htp : t ≠ p := by rintro rfl; simp_all
      obtain ⟨g1, k1⟩ := del_at hdel.symm (q := p) (by rw [upd_ne hpn]; exact upd_same _ _ _)
      obtain ⟨g2, k2⟩ := del_at hdel.symm (q := n) (upd_same _ _ _)
      obtain ⟨g3, k3⟩ := del_at hdel.symm (q := t) (by rw [upd_ne htn, upd_ne htp]; exact ht)
      have hc := take1_a s y b' p t m cap (upd G' p (boxR s (.s m 5 0 s.b.length cap))) hb (by omega) (by rw [upd_ne (Ne.symm g1)]; exact hm) (upd_same _ _ _) zEl (by rw [upd_ne htp]; exact k3) (Ne.symm htp) g1 g3
      have hoff : ∀ q, q ≠ m → G' q = _ := fun q hqm => del_off hdel.symm hqm
      rw [upd_comm htp.symm, upd_upd] at hc
      simp only [boxR, rcvX, boxE, List.cons_append, List.nil_append] at hc
      have hnp := Ne.symm hpn
      have hnt := Ne.symm htn
      have hpt := Ne.symm htp
      replace hdel := Lib.hid hdel
      replace hoff := Lib.hid hoff
      replace hb := Lib.hid hb
      (try simp only [push_cast, reduceIte, nA, nB, nC, reduceCtorEq, nD, nE, nF, nG, iA, iB, iC, iD, *])
      refine Kn.go (by assumption) ?_
      repeat' (first
    | refine AW_seq_kn fun K hK => ?_
    | refine AW_block ?_
    | (refine does_call_f rfl rfl ?_; simp only [push_cast, reduceIte, nA, nB, nC, reduceCtorEq, nD, nE, nF, nG, iA, iB, iC, iD]; refine ACall.mono hc ?_; (rintro _ _ ⟨rfl, e2⟩; have e3 := e2.symm; clear e2; subst e3); (try simp only [push_cast, reduceIte, nA, nB, nC, reduceCtorEq, nD, nE, nF, nG, iA, iB, iC, iD, *]))
    | (refine does_call rfl rfl ?_; simp only [push_cast, reduceIte, nA, nB, nC, reduceCtorEq, nD, nE, nF, nG, iA, iB, iC, iD, *]; refine ACall.mono (checkReceiver_p _ (by assumption) _) ?_; (rintro _ _ ⟨rfl, e2⟩; have e3 := e2.symm; clear e2; subst e3); (try simp only [push_cast, reduceIte, nA, nB, nC, reduceCtorEq, nD, nE, nF, nG, iA, iB, iC, iD, *]))
    | ((first
      | refine AW_region E1 ?_ | refine AW_ret ?_ | refine AW_exit ?_ | refine AW_skip ?_ | unfold retQ); try simp only [push_cast, reduceIte, nA, nB, nC, reduceCtorEq, nD, nE, nF, nG, iA, iB, iC, iD, *])
    | (apply AW_cond; (case hc => (simp only [push_cast, reduceIte, nA, nB, nC, reduceCtorEq, nD, nE, nF, nG, iA, iB, iC, iD]; rfl)); all_goals (intro hc; first | (exfalso; simp only [push_cast, reduceIte, nA, nB, nC, reduceCtorEq, nD, nE, nF, nG, iA, iB, iC, iD, *] at hc; done) | (exact absurd hc (by decide)) | (with_reducible (have hcc : true = true := hc); clear hcc hc) | (with_reducible (have hcc : false = false := hc); clear hcc hc) | ((try simp only [Bool.not_true, Bool.not_false] at hc); (first | (with_reducible (have hcc : true = true := hc); clear hcc hc) | (with_reducible (have hcc : false = false := hc); clear hcc hc) | (have hp := hc; (try simp only [decide_eq_true_eq, decide_eq_false_iff_not, bA, bB, bC, bD, bE, bF, bG, bH] at hp))))))
    | (refine Kn.go hK ?_; clear hK K)
    | refine Kn.go (by assumption) ?_
    | (intro n hn; (try simp only [upd_none2, join_none_iff, ite_none, ne_eq] at hn); (try simp only [push_cast, reduceIte, nA, nB, nC, reduceCtorEq, nD, nE, nF, nG, iA, iB, iC, iD, *]))
    | (intro hc)
    | fail)
      have hb : s.b = y :: b' := hb
      have hoff : ∀ q, q ≠ m → G' q = upd (upd H p _) n _ q := hoff
      refine ⟨_, _, Weak.less (Heap.le_trans (del_le _ p) (del_le _ n)), .s m 5 1 b'.length (cap - 1), rfl, .inr ⟨m, 1, cap - 1, cap, s.b.map El.av, rfl, ?_, ?_, by rw [hb]; simp; omega, ?_⟩⟩
      · rw [del_ne (Ne.symm g1), del_ne (Ne.symm g2), upd_ne (Ne.symm g2), upd_ne (Ne.symm g1), upd_ne (Ne.symm g3)]; exact hm
      · rw [hb]; rfl
      · have hHm : H m = none := by
          have h1 := congrFun (show _ = del G' m from hdel) m
          rw [del_same, upd_ne (Ne.symm g2), upd_ne (Ne.symm g1)] at h1
          exact h1
        funext q
        by_cases e1 : q = m
        · subst e1; rw [del_same, upd_ne (Ne.symm g3)]; exact hHm
        rw [del_ne e1]
        by_cases e2 : q = p
        · subst e2; rw [del_same, upd_ne (Ne.symm htp)]; exact hp
        rw [del_ne e2]
        by_cases e3 : q = n
        · subst e3; rw [del_same, upd_ne (Ne.symm htn)]; exact hn.2
        rw [del_ne e3, upd_ne e3, upd_ne e2]
        by_cases e4 : q = t
        · subst e4; rw [upd_same, upd_same]; rfl
        rw [upd_ne e4, upd_ne e4, hoff q e1, upd_ne e3, upd_ne e2]
theorem take_o (s : Rcv) (hq : s.b.length ≤ 1000000) (H : Heap) : ACall Try.prog 27 [.g (Rcv.av s)] H fun r H' => ∃ x', r = .t [.g (rcvX (takeS s) x'), .g (El.av (takeX s)), .c (.int .i64 (takeE s))] ∧ OwnS H' x' (takeS s).b H := by
  refine ACall_of' Try.func27 rfl (Ent_of Try.func27 (by kernel_rfl) rfl) (by simp [Try.ntmps27]) ?_; simp only [Try.ntmps27, Try.results27]
  simp only [Rcv.av]
  ((repeat refine AW_seq_kn fun K hK => ?_); (first | (refine AW_region_draw (id := 3) E1 (fun f => [].contains f) [(0, false, []), (1, true, []), (2, false, []), (3, false, [1]), (4, false, []), (5, false, [])] [[], [], [], [0], [0, 1, 3], [0, 1, 2, 3, 4]] mixed (by kernel_rfl) ?_; simp only [push_cast, reduceIte, nA, nB, nC, reduceCtorEq, nD, nE, nF, nG, iA, iB, iC, iD, *]) | (refine AW_region E1 ?_; simp only [push_cast, reduceIte, nA, nB, nC, reduceCtorEq, nD, nE, nF, nG, iA, iB, iC, iD, *])); (repeat' (first | (intro n hn; (try simp only [upd_none2, join_none_iff, ite_none, ne_eq] at hn); (try simp only [push_cast, reduceIte, nA, nB, nC, reduceCtorEq, nD, nE, nF, nG, iA, iB, iC, iD, *])))); refine Kn.go hK ?_; clear hK K)
  ((repeat refine AW_seq_kn fun K hK => ?_); (first | (refine AW_region_draw (id := 3) E1 (fun f => [].contains f) [(0, false, []), (1, true, []), (2, false, []), (3, false, [1]), (4, false, []), (5, false, [])] [[], [], [], [0], [0, 1, 3], [0, 1, 2, 3, 4]] mixed (by kernel_rfl) ?_; simp only [push_cast, reduceIte, nA, nB, nC, reduceCtorEq, nD, nE, nF, nG, iA, iB, iC, iD, *]) | (refine AW_region E1 ?_; simp only [push_cast, reduceIte, nA, nB, nC, reduceCtorEq, nD, nE, nF, nG, iA, iB, iC, iD, *])); (repeat' (first | (intro n hn; (try simp only [upd_none2, join_none_iff, ite_none, ne_eq] at hn); (try simp only [push_cast, reduceIte, nA, nB, nC, reduceCtorEq, nD, nE, nF, nG, iA, iB, iC, iD, *])))); refine Kn.go hK ?_; clear hK K)
  rename_i n1 h1 n2 h2 n3 h3
  repeat' (first
    | refine AW_seq_kn fun K hK => ?_
    | refine AW_block ?_
    | (refine does_call rfl rfl ?_; simp only [push_cast, reduceIte, nA, nB, nC, reduceCtorEq, nD, nE, nF, nG, iA, iB, iC, iD, *]; refine ACall.mono (hearingT_o s hq n _ (upd_same _ _ _)) ?_; rintro _ G ⟨x', rfl, hown⟩; have hcs := hown.cs; have k5 := hown.get (upd_same _ _ _); (try simp only [push_cast, reduceIte, nA, nB, nC, reduceCtorEq, nD, nE, nF, nG, iA, iB, iC, iD, *]))
    | ((first
      | refine AW_region_draw (id := 3) E1 (fun f => [].contains f) [(0, false, []), (1, true, []), (2, false, []), (3, false, [1]), (4, false, []), (5, false, [])] [[], [], [], [0], [0, 1, 3], [0, 1, 2, 3, 4]] mixed (by kernel_rfl) ?_
      | refine AW_region E1 ?_ | refine AW_ret ?_ | refine AW_exit ?_ | refine AW_skip ?_ | unfold retQ); try simp only [push_cast, reduceIte, nA, nB, nC, reduceCtorEq, nD, nE, nF, nG, iA, iB, iC, iD, *])
    | (apply AW_cond; (case hc => (simp only [push_cast, reduceIte, nA, nB, nC, reduceCtorEq, nD, nE, nF, nG, iA, iB, iC, iD]; rfl)); all_goals (intro hc; first | (exfalso; simp only [push_cast, reduceIte, nA, nB, nC, reduceCtorEq, nD, nE, nF, nG, iA, iB, iC, iD, *] at hc; done) | (exact absurd hc (by decide)) | (with_reducible (have hcc : true = true := hc); clear hcc hc) | (with_reducible (have hcc : false = false := hc); clear hcc hc) | ((try simp only [Bool.not_true, Bool.not_false] at hc); (first | (with_reducible (have hcc : true = true := hc); clear hcc hc) | (with_reducible (have hcc : false = false := hc); clear hcc hc) | (have hp := hc; (try simp only [decide_eq_true_eq, decide_eq_false_iff_not, bA, bB, bC, bD, bE, bF, bG, bH] at hp))))))
    | (refine Kn.go hK ?_; clear hK K)
    | refine Kn.go (by assumption) ?_
    | (intro n hn; (try simp only [upd_none2, join_none_iff, ite_none, ne_eq] at hn); (try simp only [push_cast, reduceIte, nA, nB, nC, reduceCtorEq, nD, nE, nF, nG, iA, iB, iC, iD, *]))
    | (intro hc)
    | fail)
  rename_i n4 h4
  rw [upd_upd] at hown
  obtain ⟨⟨d43, d34⟩, ⟨d42, d24⟩, ⟨d41, d14⟩, z4⟩ := h4
  obtain ⟨⟨d32, d23⟩, ⟨d31, d13⟩, z3⟩ := h3
  obtain ⟨⟨d21, d12⟩, z2⟩ := h2
  have q2 := hown.get (m := n2) (by rw [upd_ne d24, upd_ne d23]; exact upd_same _ _ _)
  have q3 := hown.get (m := n3) (by rw [upd_ne d34]; exact upd_same _ _ _)
  have o2 := ne_old q2 n hn
  have o3 := ne_old q3 n hn
  have o5 := ne_old k5 n hn
  simp only [boxE, El.av] at k5
  replace hown := Lib.hid hown
  (try simp only [push_cast, reduceIte, nA, nB, nC, reduceCtorEq, nD, nE, nF, nG, iA, iB, iC, iD, *])
  repeat' (first
    | refine AW_seq_kn fun K hK => ?_
    | refine AW_block ?_
    | ((first
      | refine AW_region_draw (id := 3) E1 (fun f => [].contains f) [(0, false, []), (1, true, []), (2, false, []), (3, false, [1]), (4, false, []), (5, false, [])] [[], [], [], [0], [0, 1, 3], [0, 1, 2, 3, 4]] mixed (by kernel_rfl) ?_
      | refine AW_region E1 ?_ | refine AW_ret ?_ | refine AW_exit ?_ | refine AW_skip ?_ | unfold retQ); try simp only [push_cast, reduceIte, nA, nB, nC, reduceCtorEq, nD, nE, nF, nG, iA, iB, iC, iD, *])
    | (apply AW_cond; (case hc => (simp only [push_cast, reduceIte, nA, nB, nC, reduceCtorEq, nD, nE, nF, nG, iA, iB, iC, iD]; rfl)); all_goals (intro hc; first | (exfalso; simp only [push_cast, reduceIte, nA, nB, nC, reduceCtorEq, nD, nE, nF, nG, iA, iB, iC, iD, *] at hc; done) | (exact absurd hc (by decide)) | (with_reducible (have hcc : true = true := hc); clear hcc hc) | (with_reducible (have hcc : false = false := hc); clear hcc hc) | ((try simp only [Bool.not_true, Bool.not_false] at hc); (first | (with_reducible (have hcc : true = true := hc); clear hcc hc) | (with_reducible (have hcc : false = false := hc); clear hcc hc) | (have hp := hc; (try simp only [decide_eq_true_eq, decide_eq_false_iff_not, bA, bB, bC, bD, bE, bF, bG, bH] at hp))))))
    | (refine Kn.go hK ?_; clear hK K)
    | refine Kn.go (by assumption) ?_
    | (intro n hn; (try simp only [upd_none2, join_none_iff, ite_none, ne_eq] at hn); (try simp only [push_cast, reduceIte, nA, nB, nC, reduceCtorEq, nD, nE, nF, nG, iA, iB, iC, iD, *]))
    | (intro hc)
    | fail)
  have hown : OwnS G x' _ _ := hown
  have e2 : n2 ≠ n := fun h => by rw [o2.1] at h; exact h
  have e3 : n3 ≠ n := fun h => by rw [o3.1] at h; exact h
  have e4 : n4 ≠ n := fun h => by rw [o5.1] at h; exact h
  have zn := hown.none hn
  have g1 := (hown.new hn (boxR (takeS s) x')).turn (m := n2) (by rw [upd_ne e2, upd_ne d24, upd_ne d23]; exact upd_same _ _ _) (boxR (takeS s) x')
  have g2 := g1.turn (m := n3) (by rw [upd_ne d32, upd_ne e3, upd_ne d34]; exact upd_same _ _ _) (boxE (takeX s))
  obtain ⟨H', l1, l2⟩ := g2.cut (K := H) (fun m k hm => by
    have a1 : m ≠ n1 := by rintro rfl; rw [h1] at hm; cases hm
    have a2 : m ≠ n2 := by rintro rfl; rw [z2] at hm; cases hm
    have a3 : m ≠ n3 := by rintro rfl; rw [z3] at hm; cases hm
    have a4 : m ≠ n4 := by rintro rfl; rw [z4] at hm; cases hm
    have a5 : m ≠ n := by
      rintro rfl
      rw [upd_ne (Ne.symm e4), upd_ne (Ne.symm e3), upd_ne (Ne.symm e2), upd_ne a1] at zn
      rw [zn] at hm; cases hm
    rw [upd_ne a3, upd_ne a2, upd_ne a5, upd_ne a4, upd_ne a3, upd_ne a2, upd_ne a1]; exact hm)
  exact ⟨_, H', Weak.less l1, x', rfl, l2⟩
theorem take_p (s : Rcv) (hq : s.b.length ≤ 1000000) : Pure Try.prog 27 [.g (Rcv.av s)] (.t [.g (Rcv.av (takeS s)), .g (El.av (takeX s)), .c (.int .i64 (takeE s))]) := fun H =>
  ACall.weak ((take_o s hq H).mono fun r H' ⟨x', hr, h⟩ => ⟨_, _, h.weak (r' := .t [.g (Rcv.av (takeS s)), .g (El.av (takeX s)), .c (.int .i64 (takeE s))]) (fun F F' hF hi ho => by rw [hr]; simp only [rcvX, Rcv.av]; (intros; repeat (first | assumption | exact Imp.refl (Mem.le.refl _) _ | exact Imp.refl (by assumption) _ | exact Imp.nil_l _ | refine Imp.t ?_ | refine Imp.g ?_ | exact Imps.nil | refine Imps.cons ?_ (by intro hh; first | rfl | (cases hh; done)) ?_))), rfl, rfl⟩)
theorem hear_p (s : Rcv) (p : Pk) (hq : s.b.length ≤ 1000000) : Pure Try.prog 25 [.g (Rcv.av s), .g (Pk.av p)] (.t [.g (Rcv.av (rH s p)), .c (.int .i64 (eH s))]) := fun H =>
  ACall.weak ((hear_o s p hq H).mono fun r H' ⟨x', hr, h⟩ => ⟨_, _, h.weak (r' := .t [.g (Rcv.av (rH s p)), .c (.int .i64 (eH s))]) (fun F F' hF hi ho => by rw [hr]; simp only [rcvX, Rcv.av]; (intros; repeat (first | assumption | exact Imp.refl (Mem.le.refl _) _ | exact Imp.refl (by assumption) _ | exact Imp.nil_l _ | refine Imp.t ?_ | refine Imp.g ?_ | exact Imps.nil | refine Imps.cons ?_ (by intro hh; first | rfl | (cases hh; done)) ?_))), rfl, rfl⟩)
theorem put_p (s : Snd) (e : El) (hq : s.q.length ≤ 1000000) : Pure Try.prog 14 [.g (Snd.av s), .g (El.av e)] (.t [.g (Snd.av (sP s e)), .c (.int .i64 (eP s e))]) := fun H =>
  ACall.weak ((put_o s e hq H).mono fun r H' ⟨x', hr, h⟩ => ⟨_, _, h.weak (r' := .t [.g (Snd.av (sP s e)), .c (.int .i64 (eP s e))]) (fun F F' hF hi ho => by rw [hr]; simp only [sndX, Snd.av]; (intros; repeat (first | assumption | exact Imp.refl (Mem.le.refl _) _ | exact Imp.refl (by assumption) _ | exact Imp.nil_l _ | refine Imp.t ?_ | refine Imp.g ?_ | exact Imps.nil | refine Imps.cons ?_ (by intro hh; first | rfl | (cases hh; done)) ?_))), rfl, rfl⟩)
theorem acked_p (s : Snd) (p : Pk) (hq : s.q.length ≤ 1000000) : Pure Try.prog 19 [.g (Snd.av s), .g (Pk.av p)] (.t [.g (Snd.av (sA s p)), .c (.int .i64 (eA s))]) := fun H =>
  ACall.weak ((acked_o s p hq H).mono fun r H' ⟨x', hr, h⟩ => ⟨_, _, h.weak (r' := .t [.g (Snd.av (sA s p)), .c (.int .i64 (eA s))]) (fun F F' hF hi ho => by rw [hr]; simp only [sndX, Snd.av]; (intros; repeat (first | assumption | exact Imp.refl (Mem.le.refl _) _ | exact Imp.refl (by assumption) _ | exact Imp.nil_l _ | refine Imp.t ?_ | refine Imp.g ?_ | exact Imps.nil | refine Imps.cons ?_ (by intro hh; first | rfl | (cases hh; done)) ?_))), rfl, rfl⟩)
end Go.Proofs.Yteoepeionomjlaa
