/- Walks: what is handed back in memory of its own, parted. -/
import Derived.Test.YteoepeionomjlaaV
namespace Go.Proofs.Yteoepeionomjlaa
open Go.RowKit
open Nat renaming reduceEqDiff → nA, reduceLT → nB, reduceLeDiff → nC, reduceAdd → nD, reduceMul → nE, reduceSub → nF, reduceBEq → nG
open Int renaming reduceToNat → iA, reduceLT → iB, reduceLE → iC, reduceEq → iD
open Bool renaming and_eq_true → bA, or_eq_true → bB, or_eq_false_iff → bC, and_eq_false_iff → bD, not_eq_true' → bE, not_eq_false' → bF, not_true → bG, not_false → bH
set_option linter.all false
set_option maxHeartbeats 4000000
attribute [local irreducible] AW Does

theorem OwnL.split {H H0 : Heap} {x : AV} {ty : TypeId} {sz : Nat} {rows : List (List AV)} (h : OwnL H x ty sz rows H0) :
    (∃ ad, x = .c (.slice ad 0 0) ∧ rows = [] ∧ H = H0) ∨ ∃ m cap, x = .s m sz 0 rows.length cap ∧ H = upd H0 m (.r ty sz cap rows) ∧ H0 m = Option.none := by
  rcases h with ⟨⟨ad, e1⟩, e2, rfl⟩ | ⟨n, cap, e1, e2, rfl⟩
  · exact .inl ⟨ad, e1, e2, rfl⟩
  · exact .inr ⟨n, cap, e1, by rw [upd_del, upd_self e2], del_same _ _⟩
theorem OwnS.split {H H0 : Heap} {x : AV} {q : List El} (h : OwnS H x q H0) :
    (∃ ad, x = .c (.slice ad 0 0) ∧ q = [] ∧ H = H0) ∨ ∃ m i cap cap0 rows, x = .s m 5 i q.length cap ∧ H = upd H0 m (.r 33 5 cap0 rows) ∧ H0 m = Option.none ∧ i + q.length ≤ rows.length := by
  rcases h with h | ⟨n, i, cap, cap0, rows, e1, e2, e3, e4, rfl⟩
  · rcases OwnL.split h with ⟨ad, h1, h2, h3⟩ | ⟨m, cap, h1, h2, h3⟩
    · exact .inl ⟨ad, h1, by simpa using h2, h3⟩
    · exact .inr ⟨m, 0, cap, cap, _, by rw [List.length_map] at h1; exact h1, h2, h3, by simp⟩
  · exact .inr ⟨n, i, cap, cap0, rows, e1, by rw [upd_del, upd_self e2], del_same _ _, e4⟩
theorem Lent.nil (H : Heap) (sz : Nat) (ad : Option Addr) : Lent H (.c (.slice ad 0 0)) (.l sz []) := fun F w v hs hv => Imp.nil_l (F := F0 w) sz v (hv.mono hs.all)
theorem Lent.own {H : Heap} {m cap cap0 : Nat} {q : List El} (hn : H m = some (.r 33 5 cap0 (q.map El.av))) : Lent H (.s m 5 0 q.length cap) (.l 5 (q.map El.av)) := by
  have := Lent.s (cap := cap) hn
  rwa [List.length_map] at this
theorem same14_g (a b : Snd) {x y : AV} {H : Heap} (ha : a.q.length ≤ maxLen) (hb : b.q.length ≤ maxLen) (hx : Lent H x (.l 5 (a.q.map El.av))) (hy : Lent H y (.l 5 (b.q.map El.av))) :
    ACall Try.prog 21 [.g (sndX a x), .g (sndX b y)] H fun r H' => r = .c (.bool (sndEq a b)) ∧ H' = H :=
  ACall.lend (args' := [.g (Snd.av a), .g (Snd.av b)]) (Flat.c _) ⟨Lent.g ⟨Lent.refl _ _, Lent.refl _ _, hx, Lent.refl _ _, Lent.refl _ _, trivial⟩ (by simp [Snd.av, AV.one, Value.oneCell']), Lent.g ⟨Lent.refl _ _, Lent.refl _ _, hy, Lent.refl _ _, Lent.refl _ _, trivial⟩ (by simp [Snd.av, AV.one, Value.oneCell']), trivial⟩ (sameS14_p a b ha hb).cl
theorem sameR14_g (a b : Rcv) {x y : AV} {H : Heap} (ha : a.b.length ≤ maxLen) (hb : b.b.length ≤ maxLen) (hx : Lent H x (.l 5 (a.b.map El.av))) (hy : Lent H y (.l 5 (b.b.map El.av))) :
    ACall Try.prog 29 [.g (rcvX a x), .g (rcvX b y)] H fun r H' => r = .c (.bool (rcvEq a b)) ∧ H' = H :=
  ACall.lend (args' := [.g (Rcv.av a), .g (Rcv.av b)]) (Flat.c _) ⟨Lent.g ⟨Lent.refl _ _, Lent.refl _ _, hx, Lent.refl _ _, trivial⟩ (by simp [Rcv.av, AV.one, Value.oneCell']), Lent.g ⟨Lent.refl _ _, Lent.refl _ _, hy, Lent.refl _ _, trivial⟩ (by simp [Rcv.av, AV.one, Value.oneCell']), trivial⟩ (sameR14_p a b ha hb).cl
theorem sndEq_self (a : Snd) : sndEq a a = true := by simp [sndEq]
theorem rcvEq_self (a : Rcv) : rcvEq a a = true := by simp [rcvEq]
theorem spoil_n (ad : Option Addr) (H : Heap) : ACall Try.prog 22 [.c (.slice ad 0 0)] H fun _ H' => H' = H := by
  exact spoil_o (.c (.slice ad 0 0)) [] (by simp) H H (.inl ⟨⟨_, rfl⟩, rfl, rfl⟩)
theorem spoil_s (m i len cap cap0 : Nat) (rows : List (List AV)) (H : Heap) (hm : H m = some (.r 33 5 cap0 rows)) (hl : i + len ≤ rows.length) (hq : len ≤ 1000000) :
    ACall Try.prog 22 [.s m 5 i len cap] H fun _ H' => ∃ rows', H' = upd H m (.r 33 5 cap0 rows') := by
  refine ACall.blk (Ent_of Try.func22 (by kernel_rfl) rfl) hm fun hcap hmax _ h5 => ?_
  refine ACall_of' Try.func22 rfl (Ent_of Try.func22 (by kernel_rfl) rfl) (by simp [Try.ntmps22]) ?_; simp only [Try.ntmps22, Try.results22]
  repeat' (first
    | refine AW_seq_kn fun K hK => ?_
    | refine AW_block ?_
    | ((first
      | refine AW_region E1 ?_ | refine AW_ret ?_ | refine AW_exit ?_ | refine AW_skip ?_ | unfold retQ); try simp only [push_cast, reduceIte, nA, nB, nC, reduceCtorEq, nD, nE, nF, nG, iA, iB, iC, iD, *])
    | (apply AW_cond; (case hc => (simp only [push_cast, reduceIte, nA, nB, nC, reduceCtorEq, nD, nE, nF, nG, iA, iB, iC, iD]; rfl)); all_goals (intro hc; first | (exfalso; simp only [push_cast, reduceIte, nA, nB, nC, reduceCtorEq, nD, nE, nF, nG, iA, iB, iC, iD, *] at hc; done) | (exact absurd hc (by decide)) | (with_reducible (have hcc : true = true := hc); clear hcc hc) | (with_reducible (have hcc : false = false := hc); clear hcc hc) | ((try simp only [Bool.not_true, Bool.not_false] at hc); (first | (with_reducible (have hcc : true = true := hc); clear hcc hc) | (with_reducible (have hcc : false = false := hc); clear hcc hc) | (have hp := hc; (try simp only [decide_eq_true_eq, decide_eq_false_iff_not, bA, bB, bC, bD, bE, bF, bG, bH] at hp))))))
    | (refine Kn.go hK ?_; clear hK K)
    | refine Kn.go (by assumption) ?_
    | (intro n hn; (try simp only [upd_none2, join_none_iff, ite_none, ne_eq] at hn); (try simp only [push_cast, reduceIte, nA, nB, nC, reduceCtorEq, nD, nE, nF, nG, iA, iB, iC, iD, *]))
    | (intro hc)
    | fail)
  refine AW_loopX (σ := List (List AV)) len (fun k s => s.length = rows.length ∧ ∀ e ∈ s, e.length = 5) (fun k _ => [(0, .s m 5 i len cap), (4, ci len), (5, ci k)]) (fun _ s => upd H m (.r 33 5 cap0 s)) rows ⟨rfl, h5⟩ ?_ ?_ ?_ ?_
  · (first | trivial | (simp only [push_cast, reduceIte, nA, nB, nC, reduceCtorEq, nD, nE, nF, nG, iA, iB, iC, iD, *]; done))
  · rw [upd_self hm]; exact Heap.le_refl _
  · rintro k s hk ⟨hs, hs5⟩
    have hkl : (k : Int) < len := (by omega); have hkw : IntKind.i64.wrap ((k : Int) + 1) = (k : Int) + 1 := wrap_i64 (by omega) (by omega)
    have hks : i + k < s.length := by omega
    obtain ⟨y, hy⟩ : ∃ y, s[i + k]? = some y := ⟨_, List.getElem?_eq_getElem hks⟩
    have hy5 := hs5 y (List.mem_of_getElem? hy)
    have hyd : List.drop 5 y = [] := List.drop_eq_nil_of_le (by omega)
    replace hs := Lib.hid hs
    replace hs5 := Lib.hid hs5
    replace h5 := Lib.hid h5
    repeat' (first
    | refine AW_seq_kn fun K hK => ?_
    | refine AW_block ?_
    | ((first
      | refine AW_region E1 ?_ | refine AW_ret ?_ | refine AW_exit ?_ | refine AW_skip ?_ | unfold retQ); try simp only [push_cast, reduceIte, nA, nB, nC, reduceCtorEq, nD, nE, nF, nG, iA, iB, iC, iD, *])
    | (apply AW_cond; (case hc => (simp only [push_cast, reduceIte, nA, nB, nC, reduceCtorEq, nD, nE, nF, nG, iA, iB, iC, iD]; rfl)); all_goals (intro hc; first | (exfalso; simp only [push_cast, reduceIte, nA, nB, nC, reduceCtorEq, nD, nE, nF, nG, iA, iB, iC, iD, *] at hc; done) | (exact absurd hc (by decide)) | (with_reducible (have hcc : true = true := hc); clear hcc hc) | (with_reducible (have hcc : false = false := hc); clear hcc hc) | ((try simp only [Bool.not_true, Bool.not_false] at hc); (first | (with_reducible (have hcc : true = true := hc); clear hcc hc) | (with_reducible (have hcc : false = false := hc); clear hcc hc) | (have hp := hc; (try simp only [decide_eq_true_eq, decide_eq_false_iff_not, bA, bB, bC, bD, bE, bF, bG, bH] at hp))))))
    | (refine Kn.go hK ?_; clear hK K)
    | refine Kn.go (by assumption) ?_
    | (intro n hn; (try simp only [upd_none2, join_none_iff, ite_none, ne_eq] at hn); (try simp only [push_cast, reduceIte, nA, nB, nC, reduceCtorEq, nD, nE, nF, nG, iA, iB, iC, iD, *]))
    | (intro hc)
    | fail)
    have hs : s.length = rows.length := hs
    have hs5 : ∀ e ∈ s, e.length = 5 := hs5
    refine ⟨_, ⟨?_, ?_⟩, by (first | trivial | (simp only [push_cast, reduceIte, nA, nB, nC, reduceCtorEq, nD, nE, nF, nG, iA, iB, iC, iD, *]; done)), Heap.le_refl _⟩
    · simp; omega
    · intro e he
      rcases List.mem_or_eq_of_mem_set he with h | h
      · exact hs5 e h
      · rw [h]; simp
  · rintro s ⟨hs, hs5⟩
    replace hs := Lib.hid hs
    replace hs5 := Lib.hid hs5
    repeat' (first
    | refine AW_seq_kn fun K hK => ?_
    | refine AW_block ?_
    | ((first
      | refine AW_region E1 ?_ | refine AW_ret ?_ | refine AW_exit ?_ | refine AW_skip ?_ | unfold retQ); try simp only [push_cast, reduceIte, nA, nB, nC, reduceCtorEq, nD, nE, nF, nG, iA, iB, iC, iD, *])
    | (apply AW_cond; (case hc => (simp only [push_cast, reduceIte, nA, nB, nC, reduceCtorEq, nD, nE, nF, nG, iA, iB, iC, iD]; rfl)); all_goals (intro hc; first | (exfalso; simp only [push_cast, reduceIte, nA, nB, nC, reduceCtorEq, nD, nE, nF, nG, iA, iB, iC, iD, *] at hc; done) | (exact absurd hc (by decide)) | (with_reducible (have hcc : true = true := hc); clear hcc hc) | (with_reducible (have hcc : false = false := hc); clear hcc hc) | ((try simp only [Bool.not_true, Bool.not_false] at hc); (first | (with_reducible (have hcc : true = true := hc); clear hcc hc) | (with_reducible (have hcc : false = false := hc); clear hcc hc) | (have hp := hc; (try simp only [decide_eq_true_eq, decide_eq_false_iff_not, bA, bB, bC, bD, bE, bF, bG, bH] at hp))))))
    | (refine Kn.go hK ?_; clear hK K)
    | refine Kn.go (by assumption) ?_
    | (intro n hn; (try simp only [upd_none2, join_none_iff, ite_none, ne_eq] at hn); (try simp only [push_cast, reduceIte, nA, nB, nC, reduceCtorEq, nD, nE, nF, nG, iA, iB, iC, iD, *]))
    | (intro hc)
    | fail)
    exact ⟨_, _, Weak.refl _ _, s, rfl⟩
theorem spoil_x (m i len cap : Nat) (H : Heap) (hm : ∃ cap0 rows, H m = some (.r 33 5 cap0 rows) ∧ i + len ≤ rows.length) (hq : len ≤ 1000000) :
    ACall Try.prog 22 [.s m 5 i len cap] H fun _ H' => ∃ c0 rows', H' = upd H m (.r 33 5 c0 rows') := by
  obtain ⟨c0, rows, h1, h2⟩ := hm
  exact (spoil_s m i len cap c0 rows H h1 h2 hq).mono fun _ _ ⟨r, e⟩ => ⟨c0, r, e⟩
theorem spoil_e (H : Heap) : ACall Try.prog 22 [.l 5 []] H fun _ H' => H' = H := by
  refine ACall_of' Try.func22 rfl (Ent_of Try.func22 (by kernel_rfl) rfl) (by simp [Try.ntmps22]) ?_; simp only [Try.ntmps22, Try.results22]
  repeat' (first
    | refine AW_seq_kn fun K hK => ?_
    | refine AW_block ?_
    | ((first
      | refine AW_region E1 ?_ | refine AW_ret ?_ | refine AW_exit ?_ | refine AW_skip ?_ | unfold retQ); try simp only [push_cast, reduceIte, nA, nB, nC, reduceCtorEq, nD, nE, nF, nG, iA, iB, iC, iD, *])
    | (apply AW_cond; (case hc => (simp only [push_cast, reduceIte, nA, nB, nC, reduceCtorEq, nD, nE, nF, nG, iA, iB, iC, iD]; rfl)); all_goals (intro hc; first | (exfalso; simp only [push_cast, reduceIte, nA, nB, nC, reduceCtorEq, nD, nE, nF, nG, iA, iB, iC, iD, *] at hc; done) | (exact absurd hc (by decide)) | (with_reducible (have hcc : true = true := hc); clear hcc hc) | (with_reducible (have hcc : false = false := hc); clear hcc hc) | ((try simp only [Bool.not_true, Bool.not_false] at hc); (first | (with_reducible (have hcc : true = true := hc); clear hcc hc) | (with_reducible (have hcc : false = false := hc); clear hcc hc) | (have hp := hc; (try simp only [decide_eq_true_eq, decide_eq_false_iff_not, bA, bB, bC, bD, bE, bF, bG, bH] at hp))))))
    | (refine Kn.go hK ?_; clear hK K)
    | refine Kn.go (by assumption) ?_
    | (intro n hn; (try simp only [upd_none2, join_none_iff, ite_none, ne_eq] at hn); (try simp only [push_cast, reduceIte, nA, nB, nC, reduceCtorEq, nD, nE, nF, nG, iA, iB, iC, iD, *]))
    | (intro hc)
    | fail)
  refine AW_loopN 0 (fun _ => True) (fun k => [(0, .l 5 []), (4, ci 0), (5, ci k)]) (fun _ => H) trivial ?_ ?_ ?_ ?_
  · (first | trivial | (simp only [push_cast, reduceIte, nA, nB, nC, reduceCtorEq, nD, nE, nF, nG, iA, iB, iC, iD, *]; done))
  · (first | trivial | ((simp only [push_cast, reduceIte, nA, nB, nC, reduceCtorEq, nD, nE, nF, nG, iA, iB, iC, iD, *]); repeat' (first | rfl | exact Heap.le_refl _ | refine And.intro ?_ ?_)))
  · intro k hk; omega
  · intro _
    repeat' (first
    | refine AW_seq_kn fun K hK => ?_
    | refine AW_block ?_
    | ((first
      | refine AW_region E1 ?_ | refine AW_ret ?_ | refine AW_exit ?_ | refine AW_skip ?_ | unfold retQ); try simp only [push_cast, reduceIte, nA, nB, nC, reduceCtorEq, nD, nE, nF, nG, iA, iB, iC, iD, *])
    | (apply AW_cond; (case hc => (simp only [push_cast, reduceIte, nA, nB, nC, reduceCtorEq, nD, nE, nF, nG, iA, iB, iC, iD]; rfl)); all_goals (intro hc; first | (exfalso; simp only [push_cast, reduceIte, nA, nB, nC, reduceCtorEq, nD, nE, nF, nG, iA, iB, iC, iD, *] at hc; done) | (exact absurd hc (by decide)) | (with_reducible (have hcc : true = true := hc); clear hcc hc) | (with_reducible (have hcc : false = false := hc); clear hcc hc) | ((try simp only [Bool.not_true, Bool.not_false] at hc); (first | (with_reducible (have hcc : true = true := hc); clear hcc hc) | (with_reducible (have hcc : false = false := hc); clear hcc hc) | (have hp := hc; (try simp only [decide_eq_true_eq, decide_eq_false_iff_not, bA, bB, bC, bD, bE, bF, bG, bH] at hp))))))
    | (refine Kn.go hK ?_; clear hK K)
    | refine Kn.go (by assumption) ?_
    | (intro n hn; (try simp only [upd_none2, join_none_iff, ite_none, ne_eq] at hn); (try simp only [push_cast, reduceIte, nA, nB, nC, reduceCtorEq, nD, nE, nF, nG, iA, iB, iC, iD, *]))
    | (intro hc)
    | fail)
    exact ⟨_, _, Weak.refl _ _, rfl⟩
end Go.Proofs.Yteoepeionomjlaa
